/- 'plumblinelaw08.KernelsMeans' at every input. No condition but on lengths. -/
import Derived.Test.YtbcdpibcieadlaaPyZ
import Derived.Test.YtbcdpibcieadlaaZz2
import Derived.Deep.Slices
import Derived.Laws.Cover2
import Derived.Lib.SmallJoins
import Derived.ProofKit
import Derived.Test.YtbcdpibcieadlaaVw3Z
import Derived.Test.YtbcdpibcieadlaaZz27
import Derived.Carry
namespace Go.Proofs.Ytbcdpibcieadlaa
open Go Go.RowKit
set_option maxRecDepth 1000000

theorem means8_any (w : World) (r c : Int) (am : Option Addr) (zm : List Nat) (pm : Nat) (ax : Option Addr) (zx : List Nat) (px : Nat) (al : Option Addr) (l : List Int) (pl : Nat) (ak : Option Addr) (k : List Int) (pk : Nat)
    (hZm : Cel w am zm) (hWm : Words zm) (hlm : zm.length ≤ maxLen) (hkm : zm.length ≤ pm) (hmm : pm ≤ maxLen) (hZx : Cel w ax zx) (hWx : Words zx) (hlx : zx.length ≤ maxLen) (hL : I32 w al l) (hbl : ∀ z ∈ l, -2147483648 ≤ z ∧ z ≤ 2147483647) (hll : l.length ≤ maxLen) (hK : I32 w ak k) (hbk : ∀ z ∈ k, -2147483648 ≤ z ∧ z ≤ 2147483647) (hlk : k.length ≤ maxLen) :
    Calls Try.prog 7 #[.agg #[.int .i64 r, .int .i64 c, .slice am zm.length pm], .slice ax zx.length px, .slice al l.length pl, .slice ak k.length pk] w fun e w' => e = .returned (.bool true) ∧ Below w.heap.size w w' := by
  refine means8_core w r c am ax al ak zm zx l k pm px pl pk (!mayM r c zm.length || decide (150 < zm.length)) (fun hq => ?_) hZx hWx hlx hL hK hbl hbk hll hlk (fun W => big8_any r c am zm.length pm W hlm)
  simp only [Bool.or_eq_false_iff, Bool.not_eq_false', decide_eq_false_iff_not] at hq
  obtain ⟨r', c', rfl, rfl, um, vm, nm⟩ := mayM_nat hq.1
  exact ⟨r', c', rfl, rfl, ⟨hZm, hWm, um, vm, nm, by omega, hkm, hmm⟩⟩
end Go.Proofs.Ytbcdpibcieadlaa

/- Arguments opened: slices of floats; a way up for results. No condition. -/
namespace Go.Proofs.Ytbcdpibcieadlaa
open Go Go.RowKit Go.ChangeShapes Go.WideShapes Go.Deep

section
variable {H : Type} {enc : TypeId × Value → H} {P : Program} {w : World} {base : Nat} {spare : Nat → Bool} {held : Bool}

theorem trod_f64 {fuel : Nat} {t : TypeId} {cs : List Value} {x : DataW H × List MemPlace} (ht : P.underlying t = some (.float .f64)) (h : DataW.trod enc P w base spare held fuel t cs = some x) : ∃ n, cs = [.float .f64 n] ∧ x = (.lit (.float .f64 n), []) ∧ n < 18446744073709551616 := by
  cases fuel with
  | zero => simp [DataW.trod] at h
  | succ n =>
    unfold DataW.trod at h
    rw [ht] at h
    split at h <;> simp_all
    rename_i k k' b hk
    subst hk
    obtain ⟨⟨rfl, hw⟩, rfl⟩ := h
    simp [Lit.wf] at hw
    exact hw

/-- A slice of floats: where it lies, its floats. -/
theorem open_fls {t e : TypeId} {fuel : Nat} {v : Value} {x : DataW H × List MemPlace} (ht : P.underlying t = some (.slice e)) (he : P.underlying e = some (.float .f64)) (hc : P.cellsOf e = 1) (h : DataW.trod enc P w base spare held fuel t [v] = some x) :
    ∃ (a : Option Addr) (zs : List Nat) (cap : Nat), v = .slice a zs.length cap ∧ Fls w a zs ∧ Words zs ∧ zs.length ≤ maxLen := by
  rcases open_slice1 ht hc h with ⟨h1, h2⟩ | ⟨a, len, cap, m, n, V, D, Pl, h1, hb, hl, hm, hmm, h2, hx⟩
  · simp only [List.cons.injEq, and_true] at h1
    subst h1
    exact ⟨none, [], 0, rfl, fun hz => absurd rfl hz, fun v hv => (by cases hv), Nat.zero_le _⟩
  · simp only [List.cons.injEq, and_true] at h1
    subst h1
    have hlm : len ≤ m := by rw [hmm]; split <;> omega
    obtain ⟨F, hF⟩ := choose_lt (α := Nat) (p := fun i x => w.cell? (a.add i) = some (.float .f64 x) ∧ x < 18446744073709551616) (n := len) (fun i hi => by
      obtain ⟨c, ht2⟩ := hx i (by omega)
      obtain ⟨x, hx1, _, hx2⟩ := trod_f64 he ht2
      simp only [List.cons.injEq, and_true] at hx1
      exact ⟨x, by rw [c, hx1], hx2⟩)
    refine ⟨some a, (List.range len).map F, cap, by simp, ?_, ?_, by simp; omega⟩
    · intro hz
      have hlen : 0 < len := by
        cases len with
        | zero => exact absurd rfl hz
        | succ n => omega
      have h0 := (hF 0 hlen).1
      obtain ⟨b, off, spot⟩ := a
      have hsp : spot = none ∧ b < w.heap.size := by
        unfold Addr.add World.cell? at h0
        simp only [if_true] at h0
        cases hh : w.heap[b]? with
        | none => rw [hh] at h0; cases h0
        | some o =>
          rw [hh] at h0
          refine ⟨?_, (Array.getElem?_eq_some_iff.1 hh).1⟩
          cases o with
          | cells c T r => simp only [] at h0; cases spot with
            | none => rfl
            | some s => simp at h0
          | _ => simp at h0
      obtain ⟨rfl, hbl⟩ := hsp
      refine ⟨b, off, rfl, hbl, fun i v hv => ?_⟩
      simp only [List.getElem?_map, Option.map_eq_some_iff] at hv
      obtain ⟨j, hj, rfl⟩ := hv
      have hi : i < len := by
        by_cases hi : i < len
        · exact hi
        · rw [List.getElem?_eq_none (by simp; omega)] at hj; cases hj
      rw [List.getElem?_range hi] at hj
      cases hj
      have := (hF i hi).1
      have ha : (Addr.add ⟨b, off, none⟩ i) = ⟨b, off + i, none⟩ := by
        unfold Addr.add
        split
        · subst_vars; rfl
        · rfl
      rw [ha] at this
      obtain ⟨s, hs⟩ := raw_self (hF i hi).2
      exact ⟨s, by rw [this, ← hs]⟩
    · intro v hv
      simp only [List.mem_map, List.mem_range] at hv
      obtain ⟨i, hi, rfl⟩ := hv
      exact (hF i hi).2
end
end Go.Proofs.Ytbcdpibcieadlaa

/- A law's row closed: the result is true, nothing that was there has turned, each argument reads as it did. No condition. -/
namespace Go.Proofs.Ytbcdpibcieadlaa
open Go Go.RowKit Go.ChangeShapes Go.WideShapes

section
variable {H : Type} {enc : TypeId × Value → H} {P : Program}

theorem trodAll_stays (hl : laidOutB P = true) {W W' : World} {sp : Nat → Bool} : ∀ {ts : List TypeId} {vs : List Value} {ds : List (DataW H)} {ps : List MemPlace},
    ts.all (fun t => P.readableRec t && decide (t < P.types.size)) = true → DataW.TrodAll enc P W 0 (fun _ => true) true ts vs ds ps → (∀ p ∈ ps, W.sameAt W' p) → (∀ p ∈ ps, sp p.block = true) → DataW.TrodAll enc P W' 0 sp true ts vs ds ps
  | [], _, _, _, _, h, _, _ => by
    obtain ⟨rfl, rfl, rfl⟩ := trodAll_nil h
    rfl
  | t :: ts, _, _, _, ht, h, h1, h2 => by
    obtain ⟨v, vs, d, ds, p, q, rfl, rfl, rfl, hd, hr⟩ := trodAll_cons h
    simp only [List.all_cons, Bool.and_eq_true, decide_eq_true_eq] at ht
    refine ⟨p, q, WideElems.Trod_stays hl ht.1.1 ht.1.2 hd (fun x hx => h1 x (by simp [hx])) (fun x hx => h2 x (by simp [hx])), trodAll_stays hl ht.2 hr (fun x hx => h1 x (by simp [hx])) (fun x hx => h2 x (by simp [hx])), rfl⟩

/-- What a law's row asks in the end. -/
theorem post_of_below {f : Func} {s : ChangeSpec} {apart fresh handsOn again : Bool} {W W' : World} {args : Array Value} {ds : List (DataW H)} {before : List MemPlace} {tb : TypeId}
    (hl : laidOutB P = true) (hread : f.params.toList.all (fun t => P.readableRec t && decide (t < P.types.size)) = true) (hv : s.vars = [])
    (hW : DataW.Whole enc P f.params.toList s.vars apart W args.toList ds [] before)
    (hs : s.fn H ds = { results := [.lit (.bool true)], args := ds }) (hb : Below W.heap.size W W') (hr : f.resultTypes = #[tb]) (htb : P.underlying tb = some .bool) :
    s.post enc P f apart fresh handsOn again W args (.bool true) W' := by
  have hlt : ∀ p ∈ before, p.block < W.heap.size := fun p hp => hW.lt p hp
  have hsame : ∀ p ∈ before, W.sameAt W' p := fun p hp => hb.same (hlt p hp)
  have hW0 := hW
  obtain ⟨p, q, hA, hV, rfl, hz, hn⟩ := hW0
  have hq : q = [] := by rw [hv] at hV; exact hV
  subst hq
  rw [List.append_nil] at hlt hsame hz hn
  have hres : ∀ (b : Nat) (sp : Nat → Bool) (hd : Bool), DataW.TrodAll enc P W' b sp hd f.resultTypes.toList ((Value.bool true).resultList f.resultTypes.size) (s.fn H (ds ++ [])).results [] := by
    intro b sp hd
    rw [List.append_nil, hs, hr]
    exact trodAll_mk1 (shut_bool htb _)
  have hargs : ∀ sp : Nat → Bool, (∀ x ∈ p, sp x.block = true) → DataW.TrodAll enc P W' 0 sp true f.params.toList args.toList (s.fn H (ds ++ [])).args p := by
    intro sp hsp
    rw [List.append_nil, hs]
    exact trodAll_stays hl hread hA hsame hsp
  have hvars : ∀ sp : Nat → Bool, DataW.TrodVars enc P W' sp s.vars (s.fn H (ds ++ [])).vars [] := by
    intro sp
    rw [List.append_nil, hs, hv]
    rfl
  have hold : ∀ x ∈ p, (fun b => decide (b < W.heap.size)) x.block = true := fun x hx => by simpa using hlt x hx
  refine ⟨ds, [], p ++ [], [], p, [], hW, hres _ _ _, hargs _ hold, hvars _, hb.frame _, fun _ => ?_⟩
  refine ⟨?_, _, _, ([] ++ p) ++ [], ⟨[] ++ p, [], trodAll_append (hargs _ (fun _ _ => rfl)) (hres _ _ _), hvars _, rfl, ?_, ?_⟩, ?_⟩
  · exact ok_one hr rfl (okWide_bool_mk htb _)
  · intro b off hp
    have h1 := hlt (MemPlace.cell b off) (by simpa using hp)
    rw [hb.frozen (p := ⟨b, off, none⟩) h1]
    exact hz b off (by simpa using hp)
  · intro ha
    have := hn ha
    simpa using this
  · intro x hx _
    simpa using hx
end
end Go.Proofs.Ytbcdpibcieadlaa

/- Arguments opened: slices of floats, cell by cell; a struct of five. No condition. -/
namespace Go.Proofs.Ytbcdpibcieadlaa
open Go Go.RowKit Go.ChangeShapes Go.WideShapes Go.Deep

section
variable {H : Type} {enc : TypeId × Value → H} {P : Program} {w : World} {base : Nat} {spare : Nat → Bool} {held : Bool}

/-- A slice of floats: where it lies, its floats. -/
theorem open_cel {t e : TypeId} {fuel : Nat} {v : Value} {x : DataW H × List MemPlace} (ht : P.underlying t = some (.slice e)) (he : P.underlying e = some (.float .f64)) (hc : P.cellsOf e = 1) (h : DataW.trod enc P w base spare held fuel t [v] = some x) :
    ∃ (a : Option Addr) (zs : List Nat) (cap : Nat), v = .slice a zs.length cap ∧ Cel w a zs ∧ Words zs ∧ zs.length ≤ maxLen := by
  rcases open_slice1 ht hc h with ⟨h1, h2⟩ | ⟨a, len, cap, m, n, V, D, Pl, h1, hb, hl, hm, hmm, h2, hx⟩
  · simp only [List.cons.injEq, and_true] at h1
    subst h1
    exact ⟨none, [], 0, rfl, fun hz => absurd rfl hz, fun v hv => (by cases hv), Nat.zero_le _⟩
  · simp only [List.cons.injEq, and_true] at h1
    subst h1
    have hlm : len ≤ m := by rw [hmm]; split <;> omega
    obtain ⟨F, hF⟩ := choose_lt (α := Nat) (p := fun i x => w.cell? (a.add i) = some (.float .f64 x) ∧ x < 18446744073709551616) (n := len) (fun i hi => by
      obtain ⟨c, ht2⟩ := hx i (by omega)
      obtain ⟨x, hx1, _, hx2⟩ := trod_f64 he ht2
      simp only [List.cons.injEq, and_true] at hx1
      exact ⟨x, by rw [c, hx1], hx2⟩)
    refine ⟨some a, (List.range len).map F, cap, by simp, ?_, ?_, by simp; omega⟩
    · intro hz
      have hlen : 0 < len := by
        cases len with
        | zero => exact absurd rfl hz
        | succ n => omega
      have h0 := (hF 0 hlen).1
      obtain ⟨b, off, spot⟩ := a
      have hsp : spot = none ∧ b < w.heap.size := by
        unfold Addr.add World.cell? at h0
        simp only [if_true] at h0
        cases hh : w.heap[b]? with
        | none => rw [hh] at h0; cases h0
        | some o =>
          rw [hh] at h0
          refine ⟨?_, (Array.getElem?_eq_some_iff.1 hh).1⟩
          cases o with
          | cells c T r => simp only [] at h0; cases spot with
            | none => rfl
            | some s => simp at h0
          | _ => simp at h0
      obtain ⟨rfl, hbl⟩ := hsp
      refine ⟨b, off, rfl, hbl, fun i v hv => ?_⟩
      simp only [List.getElem?_map, Option.map_eq_some_iff] at hv
      obtain ⟨j, hj, rfl⟩ := hv
      have hi : i < len := by
        by_cases hi : i < len
        · exact hi
        · rw [List.getElem?_eq_none (by simp; omega)] at hj; cases hj
      rw [List.getElem?_range hi] at hj
      cases hj
      have := (hF i hi).1
      have ha : (Addr.add ⟨b, off, none⟩ i) = ⟨b, off + i, none⟩ := by
        unfold Addr.add
        split
        · subst_vars; rfl
        · rfl
      rw [ha] at this
      exact this
    · intro v hv
      simp only [List.mem_map, List.mem_range] at hv
      obtain ⟨i, hi, rfl⟩ := hv
      exact (hF i hi).2

theorem array5 {α : Type} {cs : Array α} (h : cs.size = 5) : ∃ c0 c1 c2 c3 c4, cs = #[c0, c1, c2, c3, c4] := by
  obtain ⟨l⟩ := cs
  match l, h with
  | [c0, c1, c2, c3, c4], _ => exact ⟨c0, c1, c2, c3, c4, rfl⟩

/-- Five ints, by value. -/
theorem trod_ints5 {t ti : TypeId} {fuel : Nat} {cs : List Value} {x : DataW H × List MemPlace} {f0 f1 f2 f3 f4 : Field} (hs : P.underlying t = some (.struct #[f0, f1, f2, f3, f4]))
    (hf : [f0, f1, f2, f3, f4].all (fun f => f.type == ti) = true) (ho : f0.offset = 0 ∧ f1.offset = 1 ∧ f2.offset = 2 ∧ f3.offset = 3 ∧ f4.offset = 4) (hi : P.underlying ti = some (.int .i64)) (hc : P.cellsOf ti = 1) (hC : P.cellsOf t = 5)
    (h : DataW.trod enc P w base spare held fuel t cs = some x) : ∃ K A B C D : Int, cs = [.int .i64 K, .int .i64 A, .int .i64 B, .int .i64 C, .int .i64 D] ∧ x.2 = [] := by
  obtain ⟨xs, n, _, rfl, hl, hlen, hfl⟩ := DataW.trod_struct hs h
  rw [hC] at hl
  obtain ⟨c0, c1, c2, c3, c4, hcs⟩ := array5 (cs := cs.toArray) (by simpa using hl)
  obtain rfl : cs = [c0, c1, c2, c3, c4] := by simpa using congrArg Array.toList hcs
  simp only [List.all_cons, List.all_nil, Bool.and_eq_true, beq_iff_eq, and_true] at hf
  obtain ⟨e0, e1, e2, e3, e4⟩ := hf
  obtain ⟨o0, o1, o2, o3, o4⟩ := ho
  match xs, hlen with
  | [y0, y1, y2, y3, y4], _ =>
    have g0 := hfl 0 f0 rfl
    have g1 := hfl 1 f1 rfl
    have g2 := hfl 2 f2 rfl
    have g3 := hfl 3 f3 rfl
    have g4 := hfl 4 f4 rfl
    simp only [e0, e1, e2, e3, e4, o0, o1, o2, o3, o4, hc, List.drop_zero, List.drop_succ_cons, List.take_succ_cons, List.take_zero, List.getElem?_cons_zero, List.getElem?_cons_succ] at g0 g1 g2 g3 g4
    obtain ⟨K, k1, k2, _⟩ := DataW.trod_int hi g0
    obtain ⟨A, a1, a2, _⟩ := DataW.trod_int hi g1
    obtain ⟨B, b1, b2, _⟩ := DataW.trod_int hi g2
    obtain ⟨C, c1, c2, _⟩ := DataW.trod_int hi g3
    obtain ⟨D, d1, d2, _⟩ := DataW.trod_int hi g4
    simp only [List.cons.injEq, and_true] at k1 a1 b1 c1 d1
    refine ⟨K, A, B, C, D, by rw [k1, a1, b1, c1, d1], ?_⟩
    simp [k2, a2, b2, c2, d2]

theorem open_step {r : Reach} {b0 : Nat} {t ti : TypeId} {v : Value} {d : DataW H} {p : List MemPlace} {f0 f1 f2 f3 f4 : Field} (hs : P.underlying t = some (.struct #[f0, f1, f2, f3, f4]))
    (hf : [f0, f1, f2, f3, f4].all (fun f => f.type == ti) = true) (ho : f0.offset = 0 ∧ f1.offset = 1 ∧ f2.offset = 2 ∧ f3.offset = 3 ∧ f4.offset = 4) (hi : P.underlying ti = some (.int .i64)) (hc : P.cellsOf ti = 1) (hC : P.cellsOf t = 5)
    (hv : Value.okWide P w r b0 t v) (h : DataW.Trod enc P w base spare held t v d p) : ∃ K A B C D : Int, v = .agg #[.int .i64 K, .int .i64 A, .int .i64 B, .int .i64 C, .int .i64 D] := by
  obtain ⟨cs, rfl, hsz⟩ := okWide_struct hs hv
  obtain ⟨fuel, h⟩ := h
  obtain ⟨K, A, B, C, D, hcs, _⟩ := trod_ints5 hs hf ho hi hc hC h
  refine ⟨K, A, B, C, D, ?_⟩
  have : cs.toList = [.int .i64 K, .int .i64 A, .int .i64 B, .int .i64 C, .int .i64 D] := by simpa [Value.cells] using hcs
  rw [show cs = cs.toList.toArray by simp, this]
end
end Go.Proofs.Ytbcdpibcieadlaa

/- Arguments opened: slices of int32s. No condition. -/
namespace Go.Proofs.Ytbcdpibcieadlaa
open Go Go.RowKit Go.ChangeShapes Go.WideShapes Go.Deep
section
variable {H : Type} {enc : TypeId × Value → H} {P : Program} {w : World} {base : Nat} {spare : Nat → Bool} {held : Bool}
theorem trod_i32 {fuel : Nat} {t : TypeId} {cs : List Value} {x : DataW H × List MemPlace} (ht : P.underlying t = some (.int .i32)) (h : DataW.trod enc P w base spare held fuel t cs = some x) : ∃ n : Int, cs = [.int .i32 n] ∧ -2147483648 ≤ n ∧ n ≤ 2147483647 := by
  obtain ⟨z, rfl, hx, hwf⟩ := DataW.trod_int ht h
  simp [Lit.wf, IntKind.min, IntKind.max, IntKind.bits, IntKind.signed] at hwf
  exact ⟨z, rfl, by omega, by omega⟩
/-- A slice of int32s. -/
theorem open_i32s {t e : TypeId} {fuel : Nat} {v : Value} {x : DataW H × List MemPlace} (ht : P.underlying t = some (.slice e)) (he : P.underlying e = some (.int .i32)) (hc : P.cellsOf e = 1) (h : DataW.trod enc P w base spare held fuel t [v] = some x) :
    ∃ (a : Option Addr) (zs : List Int) (cap : Nat), v = .slice a zs.length cap ∧ I32 w a zs ∧ (∀ z ∈ zs, -2147483648 ≤ z ∧ z ≤ 2147483647) ∧ zs.length ≤ maxLen := by
  rcases open_slice1 ht hc h with ⟨h1, h2⟩ | ⟨a, len, cap, m, n, V, D, Pl, h1, hb, hl, hm, hmm, h2, hx⟩
  · simp only [List.cons.injEq, and_true] at h1
    subst h1
    exact ⟨none, [], 0, rfl, fun hz => absurd rfl hz, fun v hv => (by cases hv), Nat.zero_le _⟩
  · simp only [List.cons.injEq, and_true] at h1
    subst h1
    have hlm : len ≤ m := by rw [hmm]; split <;> omega
    obtain ⟨F, hF⟩ := choose_lt (α := Int) (p := fun i x => w.cell? (a.add i) = some (.int .i32 x) ∧ (-2147483648 ≤ x ∧ x ≤ 2147483647)) (n := len) (fun i hi => by
      obtain ⟨c, ht2⟩ := hx i (by omega)
      obtain ⟨x, hx1, hx2⟩ := trod_i32 he ht2
      simp only [List.cons.injEq, and_true] at hx1
      exact ⟨x, by rw [c, hx1], hx2⟩)
    refine ⟨some a, (List.range len).map F, cap, by simp, ?_, ?_, by simp; omega⟩
    · intro hz
      have hlen : 0 < len := by
        cases len with
        | zero => exact absurd rfl hz
        | succ n => omega
      have h0 := (hF 0 hlen).1
      obtain ⟨b, off, spot⟩ := a
      have hsp : spot = none ∧ b < w.heap.size := by
        unfold Addr.add World.cell? at h0
        simp only [if_true] at h0
        cases hh : w.heap[b]? with
        | none => rw [hh] at h0; cases h0
        | some o =>
          rw [hh] at h0
          refine ⟨?_, (Array.getElem?_eq_some_iff.1 hh).1⟩
          cases o with
          | cells c T r => simp only [] at h0; cases spot with
            | none => rfl
            | some s => simp at h0
          | _ => simp at h0
      obtain ⟨rfl, hbl⟩ := hsp
      refine ⟨b, off, rfl, hbl, fun i v hv => ?_⟩
      simp only [List.getElem?_map, Option.map_eq_some_iff] at hv
      obtain ⟨j, hj, rfl⟩ := hv
      have hi : i < len := by
        by_cases hi : i < len
        · exact hi
        · rw [List.getElem?_eq_none (by simp; omega)] at hj; cases hj
      rw [List.getElem?_range hi] at hj
      cases hj
      have := (hF i hi).1
      have ha : (Addr.add ⟨b, off, none⟩ i) = ⟨b, off + i, none⟩ := by
        unfold Addr.add
        split
        · subst_vars; rfl
        · rfl
      rw [ha] at this
      exact this
    · intro v hv
      simp only [List.mem_map, List.mem_range] at hv
      obtain ⟨i, hi, rfl⟩ := hv
      exact (hF i hi).2

end
end Go.Proofs.Ytbcdpibcieadlaa

/- Arguments opened: slices of floats, cell by cell, with what they can hold; five and six arguments. No condition. -/
namespace Go.Proofs.Ytbcdpibcieadlaa
open Go Go.RowKit Go.ChangeShapes Go.WideShapes Go.Deep
section
variable {H : Type} {enc : TypeId × Value → H} {P : Program} {w : World} {base : Nat} {spare : Nat → Bool} {held : Bool}
theorem open_cec {t e : TypeId} {fuel : Nat} {v : Value} {x : DataW H × List MemPlace} (ht : P.underlying t = some (.slice e)) (he : P.underlying e = some (.float .f64)) (hc : P.cellsOf e = 1) (h : DataW.trod enc P w base spare held fuel t [v] = some x) :
    ∃ (a : Option Addr) (zs : List Nat) (cap : Nat), v = .slice a zs.length cap ∧ Cel w a zs ∧ Words zs ∧ zs.length ≤ maxLen ∧ zs.length ≤ cap ∧ cap ≤ maxLen := by
  obtain ⟨a, zs, cap, hv, h1, h2, h3⟩ := open_cel ht he hc h
  refine ⟨a, zs, cap, hv, h1, h2, h3, ?_⟩
  rcases open_slice1 ht hc h with ⟨k1, _⟩ | ⟨a', len, cap', m, n, V, D, Pl, k1, _, k2, k3, _⟩
  · simp only [List.cons.injEq, and_true] at k1
    rw [k1] at hv
    simp only [Value.slice.injEq] at hv
    rw [← hv.2.1, ← hv.2.2]
    exact ⟨Nat.le_refl _, Nat.zero_le _⟩
  · simp only [List.cons.injEq, and_true] at k1
    rw [k1] at hv
    simp only [Value.slice.injEq] at hv
    rw [← hv.2.1, ← hv.2.2]
    exact ⟨k2, k3⟩
theorem trodAll_5 {t0 t1 t2 t3 t4 : TypeId} {args : Array Value} {ds : List (DataW H)} {ps : List MemPlace} (h : DataW.TrodAll enc P w base spare held [t0, t1, t2, t3, t4] args.toList ds ps) :
    ∃ v0 v1 v2 v3 v4 d0 d1 d2 d3 d4 p0 p1 p2 p3 p4, args = #[v0, v1, v2, v3, v4] ∧ ds = [d0, d1, d2, d3, d4] ∧ ps = p0 ++ p1 ++ p2 ++ p3 ++ p4 ∧ DataW.Trod enc P w base spare held t0 v0 d0 p0 ∧ DataW.Trod enc P w base spare held t1 v1 d1 p1 ∧ DataW.Trod enc P w base spare held t2 v2 d2 p2 ∧ DataW.Trod enc P w base spare held t3 v3 d3 p3 ∧ DataW.Trod enc P w base spare held t4 v4 d4 p4 := by
  obtain ⟨v0, vs0, d0, ds0, p0, q0, hargs, rfl, rfl, h0, r0⟩ := trodAll_cons h
  obtain ⟨v1, vs1, d1, ds1, p1, q1, rfl, rfl, rfl, h1, r1⟩ := trodAll_cons r0
  obtain ⟨v2, vs2, d2, ds2, p2, q2, rfl, rfl, rfl, h2, r2⟩ := trodAll_cons r1
  obtain ⟨v3, vs3, d3, ds3, p3, q3, rfl, rfl, rfl, h3, r3⟩ := trodAll_cons r2
  obtain ⟨v4, vs4, d4, ds4, p4, q4, rfl, rfl, rfl, h4, r4⟩ := trodAll_cons r3
  obtain ⟨rfl, rfl, rfl⟩ := trodAll_nil r4
  exact ⟨v0, v1, v2, v3, v4, d0, d1, d2, d3, d4, p0, p1, p2, p3, p4, by cases args; simp_all, rfl, by simp, h0, h1, h2, h3, h4⟩
theorem trodAll_6 {t0 t1 t2 t3 t4 t5 : TypeId} {args : Array Value} {ds : List (DataW H)} {ps : List MemPlace} (h : DataW.TrodAll enc P w base spare held [t0, t1, t2, t3, t4, t5] args.toList ds ps) :
    ∃ v0 v1 v2 v3 v4 v5 d0 d1 d2 d3 d4 d5 p0 p1 p2 p3 p4 p5, args = #[v0, v1, v2, v3, v4, v5] ∧ ds = [d0, d1, d2, d3, d4, d5] ∧ ps = p0 ++ p1 ++ p2 ++ p3 ++ p4 ++ p5 ∧ DataW.Trod enc P w base spare held t0 v0 d0 p0 ∧ DataW.Trod enc P w base spare held t1 v1 d1 p1 ∧ DataW.Trod enc P w base spare held t2 v2 d2 p2 ∧ DataW.Trod enc P w base spare held t3 v3 d3 p3 ∧ DataW.Trod enc P w base spare held t4 v4 d4 p4 ∧ DataW.Trod enc P w base spare held t5 v5 d5 p5 := by
  obtain ⟨v0, vs0, d0, ds0, p0, q0, hargs, rfl, rfl, h0, r0⟩ := trodAll_cons h
  obtain ⟨v1, vs1, d1, ds1, p1, q1, rfl, rfl, rfl, h1, r1⟩ := trodAll_cons r0
  obtain ⟨v2, vs2, d2, ds2, p2, q2, rfl, rfl, rfl, h2, r2⟩ := trodAll_cons r1
  obtain ⟨v3, vs3, d3, ds3, p3, q3, rfl, rfl, rfl, h3, r3⟩ := trodAll_cons r2
  obtain ⟨v4, vs4, d4, ds4, p4, q4, rfl, rfl, rfl, h4, r4⟩ := trodAll_cons r3
  obtain ⟨v5, vs5, d5, ds5, p5, q5, rfl, rfl, rfl, h5, r5⟩ := trodAll_cons r4
  obtain ⟨rfl, rfl, rfl⟩ := trodAll_nil r5
  exact ⟨v0, v1, v2, v3, v4, v5, d0, d1, d2, d3, d4, d5, p0, p1, p2, p3, p4, p5, by cases args; simp_all, rfl, by simp, h0, h1, h2, h3, h4, h5⟩
end
end Go.Proofs.Ytbcdpibcieadlaa

/- An argument opened: a float. No condition. -/
namespace Go.Proofs.Ytbcdpibcieadlaa
open Go Go.RowKit Go.ChangeShapes Go.WideShapes Go.Deep

section
variable {H : Type} {enc : TypeId × Value → H} {P : Program} {w : World} {base : Nat} {spare : Nat → Bool} {held : Bool}
theorem open_f64w {r : Reach} {b0 : Nat} {t : TypeId} {v : Value} {d : DataW H} {ps : List MemPlace} (ht : P.underlying t = some (.float .f64)) (hval : Value.okWide P w r b0 t v) (hd : DataW.Trod enc P w base spare held t v d ps) :
    ∃ n, v = .float .f64 n ∧ d = .lit (.float .f64 n) ∧ ps = [] ∧ n < 18446744073709551616 := by
  obtain ⟨n, rfl⟩ : ∃ n, v = .float .f64 n := by
    simp only [Value.okWide, ht, Cell.okWide] at hval
    cases v <;> simp_all [Cell.ok]
  obtain ⟨fuel, hf⟩ := hd
  obtain ⟨n', h, hx, hw⟩ := trod_f64 ht hf
  simp [Value.cells] at h
  subst h
  simp only [Prod.mk.injEq] at hx
  exact ⟨n, rfl, hx.1, hx.2, hw⟩
end
end Go.Proofs.Ytbcdpibcieadlaa
