/- Layer 12: what may be, what is finite; a slice of floats cloned. No condition but on lengths. -/
import Derived.Test.YtbmnlohaidbmdaaQf
namespace Go.Proofs.Ytbmnlohaidbmdaa
open Go Go.RowKit
set_option maxRecDepth 100000

/-- May it be a tridiagonal? -/
def mayT (n m : Nat) : Bool := decide (n ≤ 512) && decide (m = n - 1)
set_option maxHeartbeats 1000000 in
theorem TMay_any (w : World) (da ea : Option Addr) (n m dc ec : Nat) (hn : n ≤ maxLen) (hm : m ≤ maxLen) :
    Calls Try.prog 23 #[.agg #[.slice da n dc, .slice ea m ec]] w fun e w' => e = .returned (.bool (mayT n m)) ∧ Below w.heap.size w w' := by
  unfold maxLen at hn hm
  unfold mayT
  have h1 : decide ((n : Int) ≤ 512) = decide (n ≤ 512) := by rw [Bool.eq_iff_iff]; simp; omega
  have h2 : ((m : Int) == max ((n : Int) - 1) 0) = decide (m = n - 1) := by rw [Bool.eq_iff_iff]; simp; omega
  generalize decide (m = n - 1) = q at *
  generalize decide (n ≤ 512) = q' at *
  have hB0 : Below w.heap.size w (w.alloc (.cells #[.slice da n dc, .slice ea m ec] 24)) := (Below.refl _ _).alloc (Nat.le_refl _) _
  cases q' <;>
  · go_enter Try.func23, Try.ntmps23
    go_wp2
    all_goals
      go_ret
      refine ⟨?_, hB0⟩
      first
        | rfl
        | (rw [← h2, Int.max_eq_left (by omega)]; rfl)
        | (rw [← h2, Int.max_eq_right (by omega)]; rfl)
/-- May it be a matrix? -/
def szB (r c : Int) : Bool := decide (0 ≤ r) && decide (r ≤ 512) && decide (0 ≤ c) && decide (c ≤ 512)
def mayB (r c : Int) (n : Nat) : Bool := szB r c && decide ((n : Int) = r * c)
theorem mayB_nat {r c : Int} {n : Nat} (h : mayB r c n = true) : ∃ a b : Nat, r = a ∧ c = b ∧ a ≤ 512 ∧ b ≤ 512 ∧ n = a * b := by
  unfold mayB szB at h
  simp only [Bool.and_eq_true, decide_eq_true_eq] at h
  obtain ⟨⟨⟨⟨h1, h2⟩, h3⟩, h4⟩, h5⟩ := h
  obtain ⟨a, rfl⟩ := Int.eq_ofNat_of_zero_le h1
  obtain ⟨b, rfl⟩ := Int.eq_ofNat_of_zero_le h3
  refine ⟨a, b, rfl, rfl, by omega, by omega, ?_⟩
  rw [← Int.natCast_mul] at h5
  omega
theorem mayB_of {a b n : Nat} (ha : a ≤ 512) (hb : b ≤ 512) (hn : n = a * b) : mayB (a : Int) (b : Int) n = true := by
  unfold mayB szB
  simp only [Bool.and_eq_true, decide_eq_true_eq]
  exact ⟨⟨⟨⟨by omega, by omega⟩, by omega⟩, by omega⟩, by rw [hn, Int.natCast_mul]⟩
set_option maxHeartbeats 4000000 in
theorem QMay_any (w : World) (r c : Int) (a : Option Addr) (n ac : Nat) (hn : n ≤ maxLen) :
    Calls Try.prog 24 #[.agg #[.int .i64 r, .int .i64 c, .slice a n ac]] w fun e w' => e = .returned (.bool (mayB r c n)) ∧ Below w.heap.size w w' := by
  unfold maxLen at hn
  have hB0 : Below w.heap.size w (w.alloc (.cells #[.int .i64 r, .int .i64 c, .slice a n ac] 26)) := (Below.refl _ _).alloc (Nat.le_refl _) _
  unfold mayB
  cases hs : szB r c
  · unfold szB at hs
    cases d1 : decide (0 ≤ r)
    · go_enter Try.func24, Try.ntmps24
      go_wp2
      go_ret
      exact ⟨rfl, hB0⟩
    · cases d2 : decide (r ≤ 512)
      · go_enter Try.func24, Try.ntmps24
        go_wp2
        go_ret
        exact ⟨rfl, hB0⟩
      · cases d3 : decide (0 ≤ c)
        · go_enter Try.func24, Try.ntmps24
          go_wp2
          go_ret
          exact ⟨rfl, hB0⟩
        · cases d4 : decide (c ≤ 512)
          · go_enter Try.func24, Try.ntmps24
            go_wp2
            go_ret
            exact ⟨rfl, hB0⟩
          · rw [d1, d2, d3, d4] at hs
            cases hs
  · have hsz : ∃ p q : Nat, r = p ∧ c = q ∧ p ≤ 512 ∧ q ≤ 512 := by
      unfold szB at hs
      simp only [Bool.and_eq_true, decide_eq_true_eq] at hs
      exact ⟨r.toNat, c.toNat, by omega, by omega, by omega, by omega⟩
    obtain ⟨p, q, rfl, rfl, hp, hq⟩ := hsz
    have hpq : p * q ≤ 512 * 512 := Nat.mul_le_mul hp hq
    have e1 : (p : Int) * (q : Int) = ((p * q : Nat) : Int) := (Int.natCast_mul _ _).symm
    generalize p * q = z at *
    have e2 : ((n : Int) == (z : Int)) = decide ((n : Int) = (p : Int) * (q : Int)) := by rw [Bool.eq_iff_iff, e1]; simp
    have d1 : decide (0 ≤ (p : Int)) = true := decide_eq_true (by omega)
    have d2 : decide ((p : Int) ≤ 512) = true := decide_eq_true (by omega)
    have d3 : decide (0 ≤ (q : Int)) = true := decide_eq_true (by omega)
    have d4 : decide ((q : Int) ≤ 512) = true := decide_eq_true (by omega)
    clear hs
    have HE := Lib.hid e2
    clear e2
    go_enter Try.func24, Try.ntmps24
    go_wp2
    go_ret
    refine ⟨?_, hB0⟩
    rw [← HE.out]
    rfl
set_option maxHeartbeats 1000000 in
theorem qfin1_any (x : Nat) (w : World) (hx : x < 18446744073709551616) : Calls Try.prog 34 #[.float .f64 x] w fun e w' => e = .returned (.bool (!ffin x)) ∧ w = w' := by
  have h1 := infinite_eq x
  have HN := Lib.hid (fun W => IsNaN_any x W)
  have HI := Lib.hid (fun W => IsInf0_any x hx W)
  rw [← h1]
  clear h1
  cases hn : isnan x
  · rw [hn] at HN
    generalize decide (x % 9223372036854775808 = 9218868437227405312) = b at *
    go_enter Try.func34, Try.ntmps34
    go_wp2_with fail
    refine (HN.out _).mono ?_
    rintro e w' ⟨rfl, rfl⟩
    go_wp2_with fail
    refine (HI.out _).mono ?_
    rintro e w' ⟨rfl, rfl⟩
    go_wp2
    go_ret
    exact ⟨rfl, rfl⟩
  · rw [hn] at HN
    go_enter Try.func34, Try.ntmps34
    go_wp2_with fail
    refine (HN.out _).mono ?_
    rintro e w' ⟨rfl, rfl⟩
    go_wp2
    go_ret
    exact ⟨rfl, rfl⟩
theorem any_ffin (zs : List Nat) : (!zs.any fun x => !ffin x) = zs.all ffin := by
  induction zs with
  | nil => rfl
  | cons x l ih => rw [List.any_cons, List.all_cons, Bool.not_or, Bool.not_not, ih]
set_option maxHeartbeats 1000000 in
theorem QFin_any (w : World) (za : Option Addr) (zs : List Nat) (zc : Nat) (hZ : Fls w za zs) (hW : Words zs) (hl : zs.length ≤ maxLen) :
    Calls Try.prog 25 #[.slice za zs.length zc] w fun e w' => e = .returned (.bool (zs.all ffin)) ∧ w = w' := by
  have H := Lib.hid (ContainsFunc_any 34 (fun x => !ffin x) (fun x w hx => qfin1_any x w hx) (fun v s => by rw [ffin_raw]) (fun x w => by kernel_rfl) w za zs zc hZ hW hl)
  rw [← any_ffin]
  go_enter Try.func25, Try.ntmps25
  go_wp2_with fail
  refine H.out.mono ?_
  rintro e w2 ⟨rfl, rfl⟩
  go_wp2
  go_ret
  exact ⟨rfl, rfl⟩

/-- v is a slice of the call's own that holds the floats l, up to a NaN's bits. -/
def OwnF (W : World) (B : Nat) (v : Value) (l : List Nat) : Prop := ∃ ws : List Nat, ws.length = l.length ∧ (∀ (i u : Nat), l[i]? = some u → ∃ s, ws[i]? = some (raw u s)) ∧ W.ownsRow B 42 1 v l.length (ws.map (Value.float .f64))
/-- The floats of a slice, in block b; or there are none. -/
def FS (W : World) (a : Option Addr) (b : Nat) (l : List Nat) : Prop := l = [] ∨ (a = some ⟨b, 0, none⟩ ∧ Flb W b l)
section
variable {W W' : World} {B b : Nat} {a : Option Addr} {v : Value} {l : List Nat}
theorem OwnF.fs (h : OwnF W B v l) : ∃ a b cap, v = .slice a l.length cap ∧ l.length ≤ cap ∧ cap ≤ maxLen ∧ B ≤ b ∧ FS W a b l ∧ (l ≠ [] → b < W.heap.size) := by
  obtain ⟨ws, h1, h2, h3, h4⟩ := h
  rcases h4 with ⟨rfl, h0⟩ | ⟨g, cap, cur, rfl, hb, hg, hn, hm, hs, ht⟩
  · exact ⟨none, B, 0, by rw [h0], by omega, by unfold maxLen; omega, Nat.le_refl _, .inl (List.eq_nil_of_length_eq_zero h0), fun hz => absurd (List.eq_nil_of_length_eq_zero h0) hz⟩
  · refine ⟨_, g, cap, rfl, hn, hm, hb, .inr ⟨rfl, cur.toList, ⟨42, by rw [Array.toArray_toList]; exact hg⟩, fun i u hi => ?_⟩, fun _ => (Array.getElem?_eq_some_iff.1 hg).1⟩
    obtain ⟨s, hs'⟩ := h2 i u hi
    have hil := (List.getElem?_eq_some_iff.1 hi).1
    refine ⟨s, ?_⟩
    have h5 : (cur.toList.take (l.length * 1))[i]? = some (.float .f64 (raw u s)) := by rw [ht, List.getElem?_map, hs']; rfl
    rw [List.getElem?_take_of_lt (by omega)] at h5
    exact h5
theorem OwnF.below (h : OwnF W B v l) (hb : Below W.heap.size W W') : OwnF W' B v l := by
  obtain ⟨ws, h1, h2, h3⟩ := h
  exact ⟨ws, h1, h2, h3.kept (grown_of_below hb) (by rcases h3.2 with ⟨rfl, _⟩ | ⟨g, cap, cur, rfl, _⟩; exact .inl rfl; exact .inr (by simp [Value.ownBlock]))⟩
theorem OwnF.nil (W : World) (B : Nat) : OwnF W B (.slice none 0 0) [] := ⟨[], rfl, fun i u hi => by simp at hi, World.ownsRow_nil _ _ _ _⟩
theorem OwnF.fls (h : OwnF W B v l) : ∃ a cap, v = .slice a l.length cap ∧ Fls W a l := by
  obtain ⟨a, b, cap, hv, _, _, _, h0 | ⟨rfl, hF⟩, _⟩ := h.fs
  · subst h0; exact ⟨a, cap, hv, fun hz => absurd rfl hz⟩
  · exact ⟨_, cap, hv, hF.fls⟩
theorem FS.fls (h : FS W a b l) : Fls W a l := by
  rcases h with h0 | ⟨rfl, hF⟩
  · subst h0; exact fun hz => absurd rfl hz
  · exact hF.fls
theorem FS.flb (h : FS W a b l) (h0 : 0 < l.length) : a = some ⟨b, 0, none⟩ ∧ Flb W b l := by
  rcases h with rfl | h
  · exact absurd h0 (by simp)
  · exact h
theorem FS.below (h : FS W a b l) (hb : Below W.heap.size W W') : FS W' a b l := h.imp id (fun ⟨h1, h2⟩ => ⟨h1, h2.below hb⟩)
end
theorem run_append_ownF (w : World) (ty : TypeId) (B : Nat) (sv : Value) (l1 : List Nat) (hs : OwnF w B sv l1) (ad : Addr) (l2 : List Nat) (cap : Nat) (hZ : Fls w (some ad) l2) (hl : l1.length + l2.length ≤ 262144) (hB : B ≤ w.heap.size) :
    ∃ v' w', (Builtin.append_ #[22, 22] ty #[sv, .slice (some ad) l2.length cap]).run Try.prog w = .ok v' w' ∧ OwnF w' B v' (l1 ++ l2) ∧ Below B w w' := by
  obtain ⟨i0, hi, hz0, hz1, hz2⟩ := info_parts info_f64
  obtain ⟨ws, hwl, hws, hC⟩ := hZ.words
  obtain ⟨us, hul, hus, hO⟩ := hs
  obtain ⟨v', w', hr, h2, h3, _⟩ := run_append_own (P := Try.prog) w B 22 ty 42 i0 (.float .f64 0) 1 8 Try.underlying22 hi hz0 hz1 hz2 rfl (by decide) sv l1.length (us.map (Value.float .f64)) hO ad l2.length cap (ws.map (Value.float .f64)) (by rw [List.length_map, hwl, Nat.mul_one])
    (fun j u hu => by
      simp only [List.getElem?_map, Option.map_eq_some_iff] at hu
      obtain ⟨x, hx, rfl⟩ := hu
      have hw0 : ws ≠ [] := fun h => by rw [h] at hx; simp at hx
      obtain ⟨b, off, e, _, hc⟩ := hC hw0
      obtain rfl : ad = ⟨b, off, none⟩ := by simpa using e
      have h2 : (⟨b, off, none⟩ : Addr).add j = ⟨b, off + j, none⟩ := by unfold Addr.add; split <;> simp_all
      rw [h2]
      exact hc j x hx)
    (by simp [Value.oneCell']) (by unfold maxLen; omega) (by omega) hB
  refine ⟨v', w', hr, ⟨us ++ ws, by rw [List.length_append, List.length_append, hul, hwl], fun i u hi => ?_, by rw [List.length_append, List.map_append]; exact h2⟩,
    ⟨h3.os, h3.tape, h3.output, h3.size, fun k hk => h3.block k (Nat.lt_of_lt_of_le hk hB) (fun e => by have := (hO.lt k e.symm).1; omega)⟩⟩
  by_cases hlt : i < l1.length
  · rw [List.getElem?_append_left hlt] at hi
    obtain ⟨s, hs⟩ := hus i u hi
    exact ⟨s, by rw [List.getElem?_append_left (by omega)]; exact hs⟩
  · rw [List.getElem?_append_right (by omega)] at hi
    obtain ⟨s, hs⟩ := hws _ u hi
    exact ⟨s, by rw [List.getElem?_append_right (by omega), hul]; exact hs⟩
theorem run_append_anyF (w : World) (ty : TypeId) (B : Nat) (sv : Value) (l1 : List Nat) (hs : OwnF w B sv l1) (xa : Option Addr) (l2 : List Nat) (cap : Nat) (hZ : Fls w xa l2) (hn : xa = none → l2 = [] ∧ cap = 0) (hl : l1.length + l2.length ≤ 262144) (hB : B ≤ w.heap.size) :
    ∃ v' w', (Builtin.append_ #[22, 22] ty #[sv, .slice xa l2.length cap]).run Try.prog w = .ok v' w' ∧ OwnF w' B v' (l1 ++ l2) ∧ Below B w w' := by
  cases xa with
  | some ad => exact run_append_ownF w ty B sv l1 hs ad l2 cap hZ hl hB
  | none =>
    obtain ⟨rfl, rfl⟩ := hn rfl
    obtain ⟨i0, hi, hz0, hz1, hz2⟩ := info_parts info_f64
    refine ⟨sv, w, ?_, by rw [List.append_nil]; exact hs, Below.refl _ _⟩
    obtain ⟨us, hul, hus, hO⟩ := hs
    exact run_append_owned_none (P := Try.prog) (w := w) B 22 ty 42 i0 1 Try.underlying22 hi sv _ _ hO
theorem wp_append_ownF {w : World} {o : Oper} {a : Act} {K : Act → World → Prop} {Q : Exit → Act → World → Prop} (s x : Operand)
    (ho : o.op = .call { callee := .builtin .append, args := #[s, x], argTypes := #[22, 22] })
    (B : Nat) (sv : Value) (l1 : List Nat) (hs : a.eval s = sv) (hO : OwnF w B sv l1) (ad : Addr) (l2 : List Nat) (cap : Nat) (hx : a.eval x = .slice (some ad) l2.length cap) (hZ : Fls w (some ad) l2) (hl : l1.length + l2.length ≤ 262144) (hB : B ≤ w.heap.size)
    (h : ∀ v' w', OwnF w' B v' (l1 ++ l2) → Below B w w' → K (a.put o.dst v') w') : Oper.wp Try.prog o a w K Q := by
  obtain ⟨v', w', hr, h1, h2⟩ := run_append_ownF w o.type B sv l1 hO ad l2 cap hZ hl hB
  unfold Oper.wp execOp
  simp only [ho, resolve, invoke, builtin, Sem.run_bind, Sem.run_pure, Result.andThen_ok, List.map_toArray, List.map_cons, List.map_nil, hs, hx, hr]
  exact h _ _ h1 h2
theorem wpList_append_ownF {w : World} {ops : Array Oper} {rest : List Oper} {o : Oper} {a : Act} {Q : Exit → Act → World → Prop} (hgd : o.guard = none) (s x : Operand)
    (ho : o.op = .call { callee := .builtin .append, args := #[s, x], argTypes := #[22, 22] })
    (B : Nat) (sv : Value) (l1 : List Nat) (hs : a.eval s = sv) (hO : OwnF w B sv l1) (ad : Addr) (l2 : List Nat) (cap : Nat) (hx : a.eval x = .slice (some ad) l2.length cap) (hZ : Fls w (some ad) l2) (hl : l1.length + l2.length ≤ 262144) (hB : B ≤ w.heap.size)
    (h : ∀ v' w', OwnF w' B v' (l1 ++ l2) → Below B w w' → wpList Try.prog ops Q rest (a.put o.dst v') w') : wpList Try.prog ops Q (o :: rest) a w :=
  wpList_plain hgd fun _ hK => wp_append_ownF s x ho B sv l1 hs hO ad l2 cap hx hZ hl hB fun v' w' h1 h2 => hK _ _ (h v' w' h1 h2)
theorem wp_append_anyF {w : World} {o : Oper} {a : Act} {K : Act → World → Prop} {Q : Exit → Act → World → Prop} (s x : Operand)
    (ho : o.op = .call { callee := .builtin .append, args := #[s, x], argTypes := #[22, 22] })
    (B : Nat) (sv : Value) (l1 : List Nat) (hs : a.eval s = sv) (hO : OwnF w B sv l1) (xa : Option Addr) (l2 : List Nat) (cap : Nat) (hx : a.eval x = .slice xa l2.length cap) (hZ : Fls w xa l2) (hn : xa = none → l2 = [] ∧ cap = 0) (hl : l1.length + l2.length ≤ 262144) (hB : B ≤ w.heap.size)
    (h : ∀ v' w', OwnF w' B v' (l1 ++ l2) → Below B w w' → K (a.put o.dst v') w') : Oper.wp Try.prog o a w K Q := by
  obtain ⟨v', w', hr, h1, h2⟩ := run_append_anyF w o.type B sv l1 hO xa l2 cap hZ hn hl hB
  unfold Oper.wp execOp
  simp only [ho, resolve, invoke, builtin, Sem.run_bind, Sem.run_pure, Result.andThen_ok, List.map_toArray, List.map_cons, List.map_nil, hs, hx, hr]
  exact h _ _ h1 h2
theorem wpList_append_anyF {w : World} {ops : Array Oper} {rest : List Oper} {o : Oper} {a : Act} {Q : Exit → Act → World → Prop} (hgd : o.guard = none) (s x : Operand)
    (ho : o.op = .call { callee := .builtin .append, args := #[s, x], argTypes := #[22, 22] })
    (B : Nat) (sv : Value) (l1 : List Nat) (hs : a.eval s = sv) (hO : OwnF w B sv l1) (xa : Option Addr) (l2 : List Nat) (cap : Nat) (hx : a.eval x = .slice xa l2.length cap) (hZ : Fls w xa l2) (hn : xa = none → l2 = [] ∧ cap = 0) (hl : l1.length + l2.length ≤ 262144) (hB : B ≤ w.heap.size)
    (h : ∀ v' w', OwnF w' B v' (l1 ++ l2) → Below B w w' → wpList Try.prog ops Q rest (a.put o.dst v') w') : wpList Try.prog ops Q (o :: rest) a w :=
  wpList_plain hgd fun _ hK => wp_append_anyF s x ho B sv l1 hs hO xa l2 cap hx hZ hn hl hB fun v' w' h1 h2 => hK _ _ (h v' w' h1 h2)
/-- A slice made of no part. -/
theorem OwnF.made (w : World) : OwnF (w.alloc (.cells #[] 42)) w.heap.size (.slice (some ⟨w.heap.size, 0, none⟩) 0 0) [] :=
  ⟨[], rfl, fun i u hi => by simp at hi, World.ownsRow_made w #[] 0 (Nat.le_refl _) (Nat.zero_le _) rfl⟩
theorem Fls.alloc {w : World} {a : Option Addr} {l : List Nat} (h : Fls w a l) (o : Obj) : Fls (w.alloc o) a l := h.below ((Below.refl _ _).alloc (Nat.le_refl _) o)
set_option maxHeartbeats 2000000 in
theorem Clone_any (w : World) (a : Option Addr) (l : List Nat) (cap : Nat) (hZ : Fls w a l) (hl : l.length ≤ 262144) (hn : a = none → l = []) :
    Calls Try.prog 26 #[.slice a l.length cap] w fun e w' => (∃ v, e = .returned v ∧ OwnF w' w.heap.size v l) ∧ Below w.heap.size w w' := by
  have qT : ∀ (w : World) (a : Option Addr) (n c : Nat), (binOp .eql 22 (.slice a n c) (.slice none 0 0)).run Try.prog w = .ok (.bool a.isNone) w := fun w a n c => Lib.run_eql_slice_nil w _ _ a n c 0 0 Try.underlying22
  cases a with
  | none =>
    obtain rfl := hn rfl
    clear hn
    go_enter Try.func26, Try.ntmps26
    go_wp2
    go_ret
    exact ⟨⟨_, rfl, OwnF.nil _ _⟩, Below.refl _ _⟩
  | some p =>
    clear hn
    have HM := Lib.hid (OwnF.made w)
    have HZ := Lib.hid (hZ.alloc (.cells #[] 42))
    have hb0 : Below w.heap.size w (w.alloc (.cells #[] 42)) := (Below.refl _ _).alloc (Nat.le_refl _) _
    have hs0 := hb0.size
    clear hZ
    go_enter Try.func26, Try.ntmps26
    go_wp2_with (at_builtin; refine wpList_append_ownF rfl _ _ rfl w.heap.size _ [] rfl HM.out p l cap rfl HZ.out (by simpa using hl) hs0 ?_; rintro v' w' hO hB)
    go_ret
    exact ⟨⟨_, rfl, hO⟩, hb0.trans hB⟩
end Go.Proofs.Ytbmnlohaidbmdaa
