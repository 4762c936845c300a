/- Going over a view's places. -/
import Derived.Test.YtpjdibanjmmbkaaRv7
import Derived.Test.YtpjdibanjmmbkaaVw7
import Derived.Test.YtpjdibanjmmbkaaNq3
import Derived.Test.YtpjdibanjmmbkaaVsL
namespace Go.Proofs.Ytpjdibanjmmbkaa
open Go Go.RowKit Go.Shelf
attribute [local go_sem] Oper.semAt_some
set_option maxRecDepth 100000

theorem arr_neq (a b c d : Int) (w : World) : (binOp .neq 100 (.agg #[.int .i64 a, .int .i64 b]) (.agg #[.int .i64 c, .int .i64 d])).run Try.prog w = .ok (.bool (!((a == c) && (b == d)))) w := by
  obtain ⟨j, hj⟩ : ∃ j, Try.prog.info? 3 = some j := by
    cases h : Try.prog.info? 3 with
    | some j => exact ⟨j, rfl⟩
    | none => exact absurd h (by intro h; have : (Try.prog.info? 3).isSome = true := by kernel_rfl
                                 rw [h] at this; cases this)
  have hc : Try.prog.cellsOf 3 = 1 := by kernel_rfl
  have h : ∀ k : Nat, (Op.equalIn (k + 1 + 1) 100 (.agg #[.int .i64 a, .int .i64 b]) (.agg #[.int .i64 c, .int .i64 d])).run Try.prog w = .ok ((a == c) && (b == d)) w := fun k => by
    rw [run_equalIn_array w (k + 1) _ _ Try.underlying100 hj, hc]
    simp [List.range, List.range.loop, Op.eqItems, part, Op.equalIn, run_underlying Try.underlying3, isAgg]
    by_cases h1 : a = c <;> by_cases h2 : b = d <;> simp [h1, h2]
  simp only [binOp]
  simp [Op.equal, Op.maxDepth, h 9998]

theorem ownsRow_below' {A B : World} {base size n : Nat} {e : TypeId} {v : Value} {xs : List Value} (h : A.ownsRow base e size v n xs) (hb : Below A.heap.size A B) : B.ownsRow base e size v n xs := by
  refine ⟨h.1, ?_⟩
  rcases h.2 with h0 | ⟨g, cap, cur, h1, h2, h3, h4⟩
  · exact .inl h0
  · exact .inr ⟨g, cap, cur, h1, h2, by rw [hb.block g (Array.getElem?_eq_some_iff.1 h3).1]; exact h3, h4⟩
theorem grown_of_bel' {W W' : World} {s : Nat} (h : ∀ B, Bel B s W W') : W.grownBy W' (some s) :=
  ⟨(h 0).os, (h 0).tape, (h 0).output, (h 0).size, fun k _ hk => (h (k + 1)).block k (Nat.lt_succ_self _) (fun e => hk (by rw [e]))⟩
theorem pair_ne {a b c d : Nat} (h : (a, b) ≠ (c, d)) : (((a : Int) == (c : Int)) && ((b : Int) == (d : Int))) = false := by
  rw [Bool.and_eq_false_iff]
  by_cases e1 : a = c
  · right
    rw [beq_eq_false_iff_ne]
    intro e2
    have e3 : b = d := by omega
    exact h (by rw [e1, e3])
  · left
    rw [beq_eq_false_iff_ne]; omega
theorem func_nil (f : FuncId) (env : Array Value) (w : World) : (binOp .eql 98 (.func (.func f) #[] env) .nilFunc).run Try.prog w = .ok (.bool false) w := by
  have h : ∀ k : Nat, (Op.equalIn (k + 1) 98 (.func (.func f) #[] env) .nilFunc).run Try.prog w = .ok false w := fun k => by
    simp [Op.equalIn, run_underlying Try.underlying98]
  simp only [binOp]
  simp [Op.equal, Op.maxDepth, h 9999]

set_option maxHeartbeats 8000000 in
theorem once_any (w : World) (v : Vw) (sb : Nat) (ws : List Nat) (da : Option Addr) (dc : Nat) (x : Value) (P : Nat → Prop) (most : Int) (hv : v.Ok w sb ws) (hR : RefV P w da ws.length dc v x) (hD : Cel w da ws) (hWd : Words ws) :
    Calls Try.prog 39 #[(.agg #[.pointer v.p, .int .i64 v.r, .int .i64 v.c, .int .i64 v.o, .int .i64 v.d, .int .i64 v.u]), x, .int .i64 most] w fun e w' => e = .returned (.bool true) ∧ Below w.heap.size w w' := by
  have hsm := hv.small
  have hin := ok_pls hv
  have HLs := Lib.hid (fun (W : World) (hW : Below w.heap.size w W) => ref_list W v da ws dc x (hR.below hW) (hD.below hW) hin hsm.1 hsm.2)
  obtain ⟨ea, en, ec, aa, ac, rfl, g1, g2, g3, g4⟩ := hR
  clear g1 g2 g3 g4 hin
  have hzl : (v.list ws).length = v.r * v.c := list_length v ws
  have HZW := Lib.hid (list_words (v := v) hWd)
  have hfn := fun (b : Nat) (W : World) => func_nil 100 #[.pointer (some ⟨b, 0, none⟩)] W
  refine (callsIn_wide (n := 9)).1 ?_
  refine callsIn_of_wp_marks Try.func39 rfl trivial ?_ rfl
  simp only [Try.ntmps39, List.size_toArray, List.length_cons, List.length_nil, Nat.reduceAdd, Nat.reduceSub, Array.replicate_succ, Array.replicate_zero, List.push_toArray, List.append_toArray, List.nil_append, List.cons_append]
  gi_wp2_with (refine ⟨trivial, ?_⟩; gi_at_call 76; refine (callsIn_wide.2 (All_any _ _ _ _ _ _ _)).mono ?_; rintro e w1 ⟨rfl, rfl⟩)
  have hB0 : Below w.heap.size w ((((((w.alloc (.cells #[.pointer v.p, .int .i64 v.r, .int .i64 v.c, .int .i64 v.o, .int .i64 v.d, .int .i64 v.u] 45)).alloc (.cells #[.slice ea en ec, .int .i64 v.r, .int .i64 v.c, .slice aa (v.r * v.c) ac, .bool v.p.isSome] 48)).alloc (.cells #[.int .i64 most] 3)).alloc (.cells #[.bool false] 4)).alloc (.cells #[.int .i64 0] 3)).alloc (.cells #[.pointer v.p, .int .i64 v.r, .int .i64 v.c, .int .i64 v.o, .int .i64 v.d, .int .i64 v.u] 45)) := ((((((Below.refl _ _).alloc (Nat.le_refl _) _).alloc (by simp) _).alloc (by simp; omega) _).alloc (by simp; omega) _).alloc (by simp; omega) _).alloc (by simp; omega) _
  have x1 : Box ((((((w.alloc (.cells #[.pointer v.p, .int .i64 v.r, .int .i64 v.c, .int .i64 v.o, .int .i64 v.d, .int .i64 v.u] 45)).alloc (.cells #[.slice ea en ec, .int .i64 v.r, .int .i64 v.c, .slice aa (v.r * v.c) ac, .bool v.p.isSome] 48)).alloc (.cells #[.int .i64 most] 3)).alloc (.cells #[.bool false] 4)).alloc (.cells #[.int .i64 0] 3)).alloc (.cells #[.pointer v.p, .int .i64 v.r, .int .i64 v.c, .int .i64 v.o, .int .i64 v.d, .int .i64 v.u] 45)) (w.heap.size + 1) [.slice ea en ec, .int .i64 v.r, .int .i64 v.c, .slice aa (v.r * v.c) ac, .bool v.p.isSome] := ((((Box.newA _ [_, _, _, _, _] _ (by simp)).alloc _).alloc _).alloc _).alloc _
  have x2 : Box ((((((w.alloc (.cells #[.pointer v.p, .int .i64 v.r, .int .i64 v.c, .int .i64 v.o, .int .i64 v.d, .int .i64 v.u] 45)).alloc (.cells #[.slice ea en ec, .int .i64 v.r, .int .i64 v.c, .slice aa (v.r * v.c) ac, .bool v.p.isSome] 48)).alloc (.cells #[.int .i64 most] 3)).alloc (.cells #[.bool false] 4)).alloc (.cells #[.int .i64 0] 3)).alloc (.cells #[.pointer v.p, .int .i64 v.r, .int .i64 v.c, .int .i64 v.o, .int .i64 v.d, .int .i64 v.u] 45)) (w.heap.size + 1 + 1) [.int .i64 most] := (((Box.newA _ [_] _ (by simp)).alloc _).alloc _).alloc _
  have x3 : Box ((((((w.alloc (.cells #[.pointer v.p, .int .i64 v.r, .int .i64 v.c, .int .i64 v.o, .int .i64 v.d, .int .i64 v.u] 45)).alloc (.cells #[.slice ea en ec, .int .i64 v.r, .int .i64 v.c, .slice aa (v.r * v.c) ac, .bool v.p.isSome] 48)).alloc (.cells #[.int .i64 most] 3)).alloc (.cells #[.bool false] 4)).alloc (.cells #[.int .i64 0] 3)).alloc (.cells #[.pointer v.p, .int .i64 v.r, .int .i64 v.c, .int .i64 v.o, .int .i64 v.d, .int .i64 v.u] 45)) (w.heap.size + 1 + 1 + 1) [.bool false] := ((Box.newA _ [_] _ (by simp)).alloc _).alloc _
  have x4 : Box ((((((w.alloc (.cells #[.pointer v.p, .int .i64 v.r, .int .i64 v.c, .int .i64 v.o, .int .i64 v.d, .int .i64 v.u] 45)).alloc (.cells #[.slice ea en ec, .int .i64 v.r, .int .i64 v.c, .slice aa (v.r * v.c) ac, .bool v.p.isSome] 48)).alloc (.cells #[.int .i64 most] 3)).alloc (.cells #[.bool false] 4)).alloc (.cells #[.int .i64 0] 3)).alloc (.cells #[.pointer v.p, .int .i64 v.r, .int .i64 v.c, .int .i64 v.o, .int .i64 v.d, .int .i64 v.u] 45)) (w.heap.size + 1 + 1 + 1 + 1) [.int .i64 0] := (Box.newA _ [_] _ (by simp)).alloc _
  have x5 : Box ((((((w.alloc (.cells #[.pointer v.p, .int .i64 v.r, .int .i64 v.c, .int .i64 v.o, .int .i64 v.d, .int .i64 v.u] 45)).alloc (.cells #[.slice ea en ec, .int .i64 v.r, .int .i64 v.c, .slice aa (v.r * v.c) ac, .bool v.p.isSome] 48)).alloc (.cells #[.int .i64 most] 3)).alloc (.cells #[.bool false] 4)).alloc (.cells #[.int .i64 0] 3)).alloc (.cells #[.pointer v.p, .int .i64 v.r, .int .i64 v.c, .int .i64 v.o, .int .i64 v.d, .int .i64 v.u] 45)) (w.heap.size + 1 + 1 + 1 + 1 + 1) [.pointer v.p, .int .i64 v.r, .int .i64 v.c, .int .i64 v.o, .int .i64 v.d, .int .i64 v.u] := Box.newA _ _ _ (by simp)
  have hz0 : ((((((w.alloc (.cells #[.pointer v.p, .int .i64 v.r, .int .i64 v.c, .int .i64 v.o, .int .i64 v.d, .int .i64 v.u] 45)).alloc (.cells #[.slice ea en ec, .int .i64 v.r, .int .i64 v.c, .slice aa (v.r * v.c) ac, .bool v.p.isSome] 48)).alloc (.cells #[.int .i64 most] 3)).alloc (.cells #[.bool false] 4)).alloc (.cells #[.int .i64 0] 3)).alloc (.cells #[.pointer v.p, .int .i64 v.r, .int .i64 v.c, .int .i64 v.o, .int .i64 v.d, .int .i64 v.u] 45)).heap.size = w.heap.size + 6 := by simp
  generalize ((((((w.alloc (.cells #[.pointer v.p, .int .i64 v.r, .int .i64 v.c, .int .i64 v.o, .int .i64 v.d, .int .i64 v.u] 45)).alloc (.cells #[.slice ea en ec, .int .i64 v.r, .int .i64 v.c, .slice aa (v.r * v.c) ac, .bool v.p.isSome] 48)).alloc (.cells #[.int .i64 most] 3)).alloc (.cells #[.bool false] 4)).alloc (.cells #[.int .i64 0] 3)).alloc (.cells #[.pointer v.p, .int .i64 v.r, .int .i64 v.c, .int .i64 v.o, .int .i64 v.d, .int .i64 v.u] 45)) = W0 at *
  refine ⟨trivial, ?_⟩
  gi_at_call 36
  refine (callsIn_wide.2 (HLs.out _ hB0)).mono ?_
  rintro e w1 ⟨sv, rfl, hrow, hb1⟩
  obtain ⟨sa, scap, rfl⟩ := ownsRow_slice hrow
  rw [hzl] at hrow ⊢
  have y1 := (x1.below hb1).alloc (.cells #[.slice sa (v.r * v.c) scap] 22)
  have y2 := (x2.below hb1).alloc (.cells #[.slice sa (v.r * v.c) scap] 22)
  have y3 := (x3.below hb1).alloc (.cells #[.slice sa (v.r * v.c) scap] 22)
  have y4 := (x4.below hb1).alloc (.cells #[.slice sa (v.r * v.c) scap] 22)
  have y5 := (x5.below hb1).alloc (.cells #[.slice sa (v.r * v.c) scap] 22)
  have y9 : Box (w1.alloc (.cells #[.slice sa (v.r * v.c) scap] 22)) w1.heap.size [.slice sa (v.r * v.c) scap] := Box.newA _ [_] _ rfl
  have hrow1 := hrow.alloc (.cells #[.slice sa (v.r * v.c) scap] 22)
  have hB1 := (below_step hB0 hB0.size hb1).alloc (below_step hB0 hB0.size hb1).size (.cells #[.slice sa (v.r * v.c) scap] 22)
  have hz1 : (w1.alloc (.cells #[.slice sa (v.r * v.c) scap] 22)).heap.size = w1.heap.size + 1 := by simp
  have s1 := hb1.size
  clear x1 x2 x3 x4 x5 hb1 hrow hB0
  gi_wp2
  have hdW0 : ∃ s0, s0 = W0.heap.size := ⟨_, rfl⟩
  generalize (w1.alloc (.cells #[.slice sa (v.r * v.c) scap] 22)) = W1 at *
  generalize w1.heap.size = b9 at *
  refine view_loop (v := v) (sb := sb) 9 (by decide) (AllRd.R v sb (w.heap.size + 1 + 1 + 1 + 1 + 1) ws) hsm.1 hsm.2 ⟨y5, hv.below hB1⟩ (fun _ _ h hs => h.still hs) rfl rfl
    (fun pre W => (∀ j y, pre[j]? = some y → velP y = (j / v.c, j % v.c)) ∧ Box W (w.heap.size + 1) [.slice ea en ec, .int .i64 v.r, .int .i64 v.c, .slice aa (v.r * v.c) ac, .bool v.p.isSome] ∧ Box W (w.heap.size + 1 + 1) [.int .i64 most] ∧ Box W (w.heap.size + 1 + 1 + 1) [.bool false] ∧ Box W (w.heap.size + 1 + 1 + 1 + 1) [.int .i64 pre.length] ∧ Box W b9 [.slice sa (v.r * v.c) scap] ∧
      W.ownsRow W0.heap.size 23 1 (.slice sa (v.r * v.c) scap) (v.r * v.c) ((v.list ws).map (Value.float .f64)) ∧ Below w.heap.size w W ∧ W1.heap.size ≤ W.heap.size)
    (fun c pre W => c = .ret ∧ (∃ b, Box W (w.heap.size + 1 + 1 + 1) [.bool b] ∧ (b = true ∨ ∃ j y, pre[j]? = some y ∧ velP y ≠ (j / v.c, j % v.c))) ∧ Below w.heap.size w W ∧ W1.heap.size ≤ W.heap.size)
    (fun _ _ h => h.2.2.2.2.2.2.2.2) (fun _ _ _ h hs => ⟨h.1, h.2.1.still hs, h.2.2.1.still hs, h.2.2.2.1.still hs, h.2.2.2.2.1.still hs, h.2.2.2.2.2.1.still hs, ownsRow_still h.2.2.2.2.2.2.1 hs, below_still h.2.2.2.2.2.2.2.1 hs (by omega), Nat.le_trans h.2.2.2.2.2.2.2.2 hs.1.size⟩)
    (fun _ _ _ h => h.2.2.2) (fun _ _ _ _ h hs => ⟨h.1, by obtain ⟨b, k1, k2⟩ := h.2.1; exact ⟨b, k1.still hs, k2⟩, below_still h.2.2.1 hs (by omega), Nat.le_trans h.2.2.2 hs.1.size⟩)
    ⟨fun j y h => by simp at h, y1, y2, y3, y4, y9, hrow1, hB1, Nat.le_refl _⟩
    (fun T x Bx => (((T.setIfInBounds 19 (.agg #[.int .i64 (x.1.1 : Int), .int .i64 (x.1.2.1 : Int)])).setIfInBounds 20 (.float .f64 x.1.2.2)).setIfInBounds 10 (.pointer (some ⟨Bx, 0, none⟩))).setIfInBounds 11 (.float .f64 x.1.2.2)) ?assign ?body ?done ?stop
  case assign =>
    intro l x W K hK
    unfold velV
    gi_wp2
    exact hK
  case body =>
    rintro l pre y Bx W ⟨hpl, k1, k2, k3, k4, k9, hrw, hB, hs4⟩ hbx hBx hlt
    have hyv : y.1.2.2 = v.get ws y.1.1 y.1.2.1 := y.2.2.2
    have hc0 : 0 < v.c := Nat.lt_of_le_of_lt (Nat.zero_le _) y.2.2.1
    have hyr : y.1.1 < v.r := y.2.1
    have hyc : y.1.2.1 < v.c := y.2.2.1
    have hvp : velP y = (y.1.1, y.1.2.1) := rfl
    have hap : ∀ z, (pre ++ [y])[pre.length]? = some z → z = y := fun z hz => by simpa using hz.symm
    have HAP := Lib.hid (fun j z (hz : (pre ++ [y])[j]? = some z) => show j < pre.length ∧ pre[j]? = some z ∨ (j = pre.length ∧ z = y) by
      rcases Nat.lt_or_ge j pre.length with hj | hj
      · left; rw [List.getElem?_append_left hj] at hz; exact ⟨hj, hz⟩
      · right
        rw [List.getElem?_append_right hj] at hz
        cases hjk : j - pre.length with
        | zero => rw [hjk] at hz; simp at hz; exact ⟨by omega, hz.symm⟩
        | succ n => rw [hjk] at hz; simp at hz)
    have hln : (pre ++ [y]).length = pre.length + 1 := by simp
    obtain ⟨k, hk⟩ : ∃ k, k = pre.length := ⟨_, rfl⟩
    rw [← hk] at k4 hlt HAP hln
    have HKp := Lib.hid hk
    clear hk
    have hzk := list_getD v ws hlt
    have hcel : Cel W sa (v.list ws) := Cel.owns (by rw [hzl]; exact hrw)
    obtain ⟨bs, off, rfl, hbs, hcs⟩ := hcel (by intro e; rw [e] at hzl; simp at hzl; omega)
    have hck := hcs k ((v.list ws).getD k 0) (by rw [List.getD_eq_getElem?_getD, List.getElem?_eq_getElem (by omega)]; rfl)
    have hzw := HZW.out.at k
    rw [hzk] at hck hzw
    obtain ⟨q1, q2, q3⟩ := k1.facts
    obtain ⟨q4, q5, q6⟩ := k2.facts
    obtain ⟨q7, q8, q9⟩ := k3.facts
    obtain ⟨p1, p2, p3⟩ := k4.facts
    obtain ⟨p4, p5, p6⟩ := k9.facts
    obtain ⟨p7, p8, p9⟩ := hbx.facts
    have hrc : v.r * v.c ≤ 512 * 512 := Nat.mul_le_mul hsm.1 hsm.2
    have hkL : k < (v.list ws).length := by omega
    have HPY := Lib.hid (show velP y = (k / v.c, k % v.c) ∨ velP y ≠ (k / v.c, k % v.c) from Classical.em _)
    have t1 : decide ((v.r : Int) * (v.c : Int) ≤ (k : Int)) = false := by rw [← Int.natCast_mul]; simp; omega
    have t2 : decide (v.r * v.c ≤ k) = false := by simp; omega
    clear hcs hzk
    generalize hzz : v.get ws (k / v.c : Nat) (k % v.c : Nat) = z at *
    obtain ⟨qi, hqi⟩ : ∃ qi, qi = k / v.c := ⟨_, rfl⟩
    obtain ⟨qj, hqj⟩ : ∃ qj, qj = k % v.c := ⟨_, rfl⟩
    have hc1 : (v.c : Int) ≠ 0 := by omega
    have hc2 : v.c ≠ 0 := by omega
    have hc3 : ((v.c : Int) == 0) = false := by simp; omega
    have hqib : qi ≤ 512 * 512 := by rw [hqi]; exact Nat.le_trans (Nat.div_le_self _ _) (by omega)
    have d0 : (k : Int).tdiv (v.c : Int) = (qi : Int) := by rw [hqi]; exact (Int.ofNat_tdiv _ _).symm
    have d1 : (k : Int).tmod (v.c : Int) = (qj : Int) := by rw [hqj]; exact (Int.ofNat_tmod _ _).symm
    have d2 : IntKind.i64.wrap (qi : Int) = (qi : Int) := by rw [IntKind.wrap_i64]; omega
    have d3 : wrap64 (qi : Int) = (qi : Int) := by unfold wrap64; omega
    rcases HPY.out with hpy | hpy
    · have hy1 : y.1.1 = qi := by rw [hvp] at hpy; rw [hqi]; exact congrArg Prod.fst hpy
      have hy2 : y.1.2.1 = qj := by rw [hvp] at hpy; rw [hqj]; exact congrArg Prod.snd hpy
      have hyz : y.1.2.2 = z := by rw [hyv, hy1, hy2, hqi, hqj]; exact hzz
      have harr := arr_neq (qi : Int) (qj : Int) (qi : Int) (qj : Int)
      simp only [beq_self_eq_true, Bool.and_self, Bool.not_true] at harr
      rw [hy1, hy2] at p8 ⊢
      rw [hyz]
      have HPY' := Lib.hid hpy
      clear hy1 hy2 hpy hyv hvp hyr hyc hqi hqj
      gi_wp2
      refine wpIn_region_nqd 27  (by kernel_rfl) (by kernel_rfl) ?_
      intro Cw Rw hc hb' hb2 hd hRw
      simp only [List.take_succ_cons, List.take_zero]
      repeat (
        first
          | (refine nqW_skip rfl (fun K hK => ?_); go_frame; refine hK _ ?_; clear hK K)
          | ((first | (refine nqW_plain (fun K hK => ?_)) | (refine nqW_want rfl (fun K hK => ?_)) | (refine nqW_step (fun K hK => ?_); go_simp))
             first
               | (refine nq_move rfl ?_; go_simp; refine hK _ ?_; clear hK K)
               | (refine nq_assign rfl ?_; go_simp; refine hK _ ?_; clear hK K)
               | (refine nq_flt rfl rfl rfl rfl hd ?_; intro _; go_frame; refine hK _ ?_; clear hK K)
               | (refine nq_inC rfl ?_; intro w' hw'; go_simp; refine fd_both (V := (.int .u64 (nm z))) (by kernel_rfl) (fun w2 hw2 => ?_) ?_; (next => (go_at_call 33; exact (Bits_b z hzw w2).mono (fun e w3 ⟨he, hb⟩ => ⟨he, hb2 _ _ hw2 hb⟩))); (try go_simp); refine hK _ ?_; clear hK K hw' w')
               | (refine nq_same ?_; intro w' hw'; go_simp; (try go_bits); refine hK _ ?_; clear hK K hw' w')
               | (refine nq_same ?_; intro w' hw'; go_simp; rw [if_pos (by omega)]; go_simp; (try go_bits); refine hK _ ?_; clear hK K hw' w')
               | (go_simp; refine hK _ ?_; clear hK K)))
      refine nqW_nil (hRw _ ?_)
      clear hc hb' hb2 hd hRw
      intro w' hw'
      simp only [List.drop]
      have m1 := k1.below hw'
      have m2 := k2.below hw'
      have m3 := k3.below hw'
      have m4 := k4.below hw'
      have m9 := k9.below hw'
      have mrw := ownsRow_below' hrw hw'
      have hBm := below_step hB hB.size hw'
      have hsm' := Nat.le_trans hs4 hw'.size
      have hkb : k + 1 ≤ 262144 := by omega
      clear q1 q2 q3 q4 q5 q6 q7 q8 q9 p1 p2 p3 p4 p5 p6 p7 p8 p9 k1 k2 k3 k4 k9 hck harr hbx d0 d1 d2 d3 hc1 hc2 hc3 t1 t2
      obtain ⟨q4, q5, q6⟩ := m2.facts
      obtain ⟨q7, q8, q9⟩ := m3.facts
      obtain ⟨p1, p2, p3⟩ := m4.facts
      have hks : ∀ B, Bel B (w.heap.size + 1 + 1 + 1 + 1) w' (w'.setCell ⟨w.heap.size + 1 + 1 + 1 + 1, 0, none⟩ (.int .i64 ((k : Int) + 1))) := fun B => (Bel.refl _ _ _).set _ _
      have hg := grown_of_bel' hks
      have hBk : Below w.heap.size w (w'.setCell ⟨w.heap.size + 1 + 1 + 1 + 1, 0, none⟩ (.int .i64 ((k : Int) + 1))) := hBm.trans ((hks _).below (by omega))
      cases hmo : ((k : Int) + 1 == most)
      · gi_wp2
        refine ⟨(keeps_below hw' _).trans ((KeepsOthers.setCell _ _ _).from _), fun hR => ⟨(hR.1.below hw').grown hg (fun r e => by cases e; omega), hv.below hBk⟩, fun j z hz => ?_, m1.grown hg (fun r e => by cases e; omega), m2.grown hg (fun r e => by cases e; omega), m3.grown hg (fun r e => by cases e; omega), ?_, m9.grown hg (fun r e => by cases e; omega), ownsRow_bel mrw (hks _) (by omega), hBk, Nat.le_trans hsm' (hks 0).size⟩
        · rcases HAP.out j z hz with ⟨_, h2⟩ | ⟨rfl, rfl⟩
          · exact hpl j z h2
          · exact HPY'.out
        · rw [hln]
          have := m4.set 0 (.int .i64 ((k : Int) + 1))
          exact this
      · gi_wp2
        have hks3 : ∀ B, Bel B (w.heap.size + 1 + 1 + 1) (w'.setCell ⟨w.heap.size + 1 + 1 + 1 + 1, 0, none⟩ (.int .i64 ((k : Int) + 1))) ((w'.setCell ⟨w.heap.size + 1 + 1 + 1 + 1, 0, none⟩ (.int .i64 ((k : Int) + 1))).setCell ⟨w.heap.size + 1 + 1 + 1, 0, none⟩ (.bool true)) := fun B => (Bel.refl _ _ _).set _ _
        refine ⟨((keeps_below hw' _).trans ((KeepsOthers.setCell _ _ _).from _)).trans ((KeepsOthers.setCell _ _ _).from _), rfl, ⟨true, (m3.grown hg (fun r e => by cases e; omega)).set 0 (.bool true), .inl rfl⟩, hBk.trans ((hks3 _).below (by omega)), Nat.le_trans (Nat.le_trans hsm' (hks 0).size) (hks3 0).size⟩
    · have hpy2 : (y.1.1, y.1.2.1) ≠ (qi, qj) := fun e => hpy (hvp.trans (e.trans (by rw [hqi, hqj])))
      have hbne := pair_ne hpy2
      obtain ⟨yi, hyi⟩ : ∃ yi, yi = y.1.1 := ⟨_, rfl⟩
      obtain ⟨yj, hyj⟩ : ∃ yj, yj = y.1.2.1 := ⟨_, rfl⟩
      obtain ⟨yf, hyf⟩ : ∃ yf, yf = y.1.2.2 := ⟨_, rfl⟩
      rw [← hyi, ← hyj] at hbne p8
      rw [← hyi, ← hyj, ← hyf]
      have harr := arr_neq (yi : Int) (yj : Int) (qi : Int) (qj : Int)
      rw [hbne] at harr
      simp only [Bool.not_false] at harr
      have HPY' := Lib.hid hpy
      clear hpy hyv hvp hyr hyc hqi hqj hbne hyi hyj hyf hpy2
      gi_wp2
      refine wpIn_region_nqd 27  (by kernel_rfl) (by kernel_rfl) ?_
      intro Cw Rw hc hb' hb2 hd hRw
      simp only [List.take_succ_cons, List.take_zero]
      repeat (
        first
          | (refine nqW_skip rfl (fun K hK => ?_); go_frame; refine hK _ ?_; clear hK K)
          | ((first | (refine nqW_plain (fun K hK => ?_)) | (refine nqW_want rfl (fun K hK => ?_)) | (refine nqW_step (fun K hK => ?_); go_simp))
             first
               | (refine nq_move rfl ?_; go_simp; refine hK _ ?_; clear hK K)
               | (refine nq_assign rfl ?_; go_simp; refine hK _ ?_; clear hK K)
               | (refine nq_flt rfl rfl rfl rfl hd ?_; intro _; go_frame; refine hK _ ?_; clear hK K)
               | (fail)
               | (refine nq_same ?_; intro w' hw'; go_simp; (try go_bits); refine hK _ ?_; clear hK K hw' w')
               | (refine nq_same ?_; intro w' hw'; go_simp; rw [if_pos (by omega)]; go_simp; (try go_bits); refine hK _ ?_; clear hK K hw' w')
               | (go_simp; refine hK _ ?_; clear hK K)))
      refine nqW_nil (hRw _ ?_)
      clear hc hb' hb2 hd hRw
      intro w' hw'
      simp only [List.drop]
      have m3 := k3.below hw'
      have hBm := below_step hB hB.size hw'
      have hsm' := Nat.le_trans hs4 hw'.size
      clear q1 q2 q3 q4 q5 q6 q7 q8 q9 p1 p2 p3 p4 p5 p6 p7 p8 p9 k1 k2 k3 k4 k9 hck harr hbx d0 d1 d2 d3 hc1 hc2 hc3 t1 t2
      obtain ⟨q7, q8, q9⟩ := m3.facts
      gi_wp2
      have hks3 : ∀ B, Bel B (w.heap.size + 1 + 1 + 1) w' (w'.setCell ⟨w.heap.size + 1 + 1 + 1, 0, none⟩ (.bool false)) := fun B => (Bel.refl _ _ _).set _ _
      exact ⟨(keeps_below hw' _).trans ((KeepsOthers.setCell _ _ _).from _), rfl, ⟨false, m3.set 0 (.bool false), .inr ⟨k, y, by rw [HKp.out]; simp, HPY'.out⟩⟩, hBm.trans ((hks3 _).below (by omega)), Nat.le_trans hsm' (hks3 0).size⟩
  case done =>
    rintro D ys W hD hys ⟨hpl, k1, k2, k3, k4, k9, hrw, hB, hs4⟩ hK
    have hlen : ys.length = v.r * v.c := by
      have := congrArg List.length hys
      simpa [plcs] using this
    rw [hlen] at k4
    obtain ⟨q7, q8, q9⟩ := k3.facts
    obtain ⟨p1, p2, p3⟩ := k4.facts
    obtain ⟨p4, p5, p6⟩ := k9.facts
    clear hpl hys hlen
    gi_wp2
    have hK2 : (W.setCell ⟨w.heap.size + 1 + 1 + 1, 0, none⟩ (.bool true)).heap[D]? = some (.deferred (some [])) := by
      rw [Below.heap_setCell _ _ _ _ (by show D ≠ w.heap.size + 1 + 1 + 1; omega)]; exact hK
    have hst : StillC W1.heap.size _ _ := StillC.put (o' := .deferred none) hD hK2 rfl
    refine ⟨by simp, .inl ⟨_, _, rfl, run_takeDeferred hK2, ?_⟩⟩
    refine ⟨_, results_one rfl (rv_bool (g := w.heap.size + 1 + 1 + 1) rfl ((k3.set 0 _).still hst) Try.underlying4), rfl, ?_⟩
    exact below_still (below_set hB (by omega) _ _) hst (by omega)
  case stop =>
    rintro D c pre W hD hpre ⟨rfl, ⟨b, k3, hb⟩, hB, hs4⟩ hK
    obtain rfl : b = true := by
      rcases hb with hb | ⟨j, y, hj, hne⟩
      · exact hb
      · exfalso
        obtain ⟨rest, hrest⟩ := hpre
        have h1 : (pre.map velP)[j]? = some (velP y) := by rw [List.getElem?_map, hj]; rfl
        have hjl : j < (pre.map velP).length := (List.getElem?_eq_some_iff.1 h1).1
        have h2 : (plcs v.c (v.r * v.c))[j]? = some (velP y) := by rw [← hrest, List.getElem?_append_left hjl]; exact h1
        have hjr : j < v.r * v.c := by
          have h3 := (List.getElem?_eq_some_iff.1 h2).1
          simpa [plcs] using h3
        rw [plcs_get hjr] at h2
        exact hne (by injection h2 with h2; exact h2.symm)
    obtain ⟨q7, q8, q9⟩ := k3.facts
    gi_wp2
    have hst : StillC W1.heap.size _ _ := StillC.put (o' := .deferred none) hD hK rfl
    refine ⟨by simp, .inl ⟨_, _, rfl, run_takeDeferred hK, ?_⟩⟩
    refine ⟨_, results_one rfl (rv_bool (g := w.heap.size + 1 + 1 + 1) rfl (k3.still hst) Try.underlying4), rfl, ?_⟩
    exact below_still hB hst (by omega)
end Go.Proofs.Ytpjdibanjmmbkaa
