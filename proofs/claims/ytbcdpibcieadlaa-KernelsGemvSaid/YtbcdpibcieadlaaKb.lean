/- Layer 8: views that are some, that are vectors. No condition but on lengths. -/
import Derived.Test.YtbcdpibcieadlaaKa
namespace Go.Proofs.Ytbcdpibcieadlaa
open Go Go.RowKit
set_option maxRecDepth 100000

/-- A view's cells. -/
def Vw.cs (v : Vw) : List Value := [.pointer v.p, .int .i64 v.r, .int .i64 v.c, .int .i64 v.o, .int .i64 v.d, .int .i64 v.u]
theorem cs_at (vs : List Vw) : ∀ (i : Nat) (v : Vw), vs[i]? = some v → ∀ k, k < 6 → (vs.flatMap Vw.cs)[i * 6 + k]? = v.cs[k]? := by
  induction vs with
  | nil => intro i v h; simp at h
  | cons u vs ih =>
    intro i v h k hk
    have hl : u.cs.length = 6 := rfl
    rw [List.flatMap_cons]
    cases i with
    | zero =>
      simp only [List.getElem?_cons_zero, Option.some.injEq] at h
      subst h
      rw [Nat.zero_mul, Nat.zero_add, List.getElem?_append_left (by rw [hl]; exact hk)]
    | succ i =>
      rw [List.getElem?_cons_succ] at h
      rw [List.getElem?_append_right (by rw [hl]; omega), hl, show (i + 1) * 6 + k - 6 = i * 6 + k by omega]
      exact ih i v h k hk
theorem same_none (v : Vw) {w : World} {sb : Nat} {ws : List Nat} (h : v.Ok w sb ws) : sameV v Vw.none ws [] = v.p.isNone := by
  rcases h with h | ⟨⟨st, h, _⟩, _⟩
  · subst h; rfl
  · unfold sameV; rw [h]; rfl
set_option maxHeartbeats 4000000 in
theorem there_any (w : World) (b : Nat) (vs : List Vw) (hb : Box w b (vs.flatMap Vw.cs)) (hok : ∀ v ∈ vs, ∃ sb ws, v.Ok w sb ws) (hl : vs.length ≤ 100) :
    Calls Try.prog 103 #[.slice (some ⟨b, 0, none⟩) vs.length vs.length] w fun e w' => e = .returned (.bool (vs.all fun v => v.p.isSome)) ∧ Below w.heap.size w w' := by
  obtain ⟨R, hR⟩ : ∃ R, R = (vs.all fun v => v.p.isSome) := ⟨_, rfl⟩
  rw [← hR]
  have HR := Lib.hid hR
  have HB := Lib.hid (And.intro hb hok)
  have hbl := hb.lt
  clear hR hb hok
  go_enter Try.func103, Try.ntmps103
  go_wp2_with fail
  go_loopw [7] (fun s7 wr => ∃ i : Nat, i ≤ vs.length ∧ s7 = .int .i64 i ∧ (∀ v ∈ vs.take i, v.p.isSome = true) ∧ Below w.heap.size w wr) (fun s7 _ => vs.length - (intOf s7).toNat)
  case atStart => exact ⟨0, Nat.zero_le _, rfl, fun v hv => by simp at hv, Below.refl _ _⟩
  case round =>
    obtain ⟨i, hi, rfl, hall, hBr⟩ := hrel
    by_cases hlt : i < vs.length
    · obtain ⟨v, hv⟩ : ∃ v, vs[i]? = some v := ⟨vs[i], List.getElem?_eq_getElem hlt⟩
      have hc := fun k hk => (((HB.out.1.below hBr).cell (i * 6 + k)).trans (cs_at vs i v hv k hk))
      have c0 : wr.cell? ⟨b, i * 6, none⟩ = some (.pointer v.p) := hc 0 (by decide)
      have c1 : wr.cell? ⟨b, i * 6 + 1, none⟩ = some (.int .i64 v.r) := hc 1 (by decide)
      have c2 : wr.cell? ⟨b, i * 6 + 2, none⟩ = some (.int .i64 v.c) := hc 2 (by decide)
      have c3 : wr.cell? ⟨b, i * 6 + 3, none⟩ = some (.int .i64 v.o) := hc 3 (by decide)
      have c4 : wr.cell? ⟨b, i * 6 + 4, none⟩ = some (.int .i64 v.d) := hc 4 (by decide)
      have c5 : wr.cell? ⟨b, i * 6 + 5, none⟩ = some (.int .i64 v.u) := hc 5 (by decide)
      have HBr := Lib.hid (show _ ∧ _ ∧ _ ∧ _ from ⟨hBr, hall, hlt, hv⟩)
      have hbr := Nat.lt_of_lt_of_le hbl hBr.size
      clear hc hall hv hi hBr
      obtain ⟨sb, ws, hok⟩ := HB.out.2 v (List.mem_of_getElem? HBr.out.2.2.2)
      have hbA : Below wr.heap.size wr (wr.alloc (.cells #[.pointer v.p, .int .i64 v.r, .int .i64 v.c, .int .i64 v.o, .int .i64 v.d, .int .i64 v.u] 29)) := (Below.refl _ _).alloc (Nat.le_refl _) _
      have hB1 := below_step HBr.out.1 HBr.out.1.size hbA
      have HS := Lib.hid (same_none v hok ▸ Same_any _ v Vw.none sb 0 ws [] (hok.below hB1) (.inl rfl))
      have HB1 := Lib.hid hB1
      clear hok hbA hB1
      go_wp2_with fail
      refine HS.out.mono ?_
      rintro e w1 ⟨rfl, hb1⟩
      have HB2 := Lib.hid (below_step HB1.out HB1.out.size hb1)
      clear HS hb1 HB1 c0 c1 c2 c3 c4 c5
      cases hp : v.p with
      | none =>
        have hf : R = false := by
          rw [HR.out, List.all_eq_false]
          exact ⟨v, List.mem_of_getElem? HBr.out.2.2.2, by rw [hp]; decide⟩
        subst hf
        simp only [Option.isNone_none, Option.isNone_some]
        go_wp2_with fail
        go_ret
        exact ⟨rfl, HB2.out⟩
      | some q =>
        have HP := Lib.hid hp
        simp only [Option.isNone_none, Option.isNone_some]
        clear hp
        go_wp2_with fail
        go_roundw
        case rel => exact ⟨i + 1, HBr.out.2.2.1, by go_num, fun u hu => by
          rw [List.take_succ_eq_append_getElem HBr.out.2.2.1, List.mem_append, List.mem_singleton] at hu
          rcases hu with hu | hu
          · exact HBr.out.2.1 u hu
          · have h1 := HBr.out.2.2.2
            rw [List.getElem?_eq_getElem HBr.out.2.2.1, Option.some.injEq] at h1
            rw [hu, h1, HP.out]; rfl, HB2.out⟩
        case measure => have := HBr.out.2.2.1; simp [intOf]; omega
    · obtain rfl : i = vs.length := by omega
      have ht : R = true := by
        rw [HR.out, List.all_eq_true]
        intro v hv
        exact hall v (by rw [List.take_length]; exact hv)
      subst ht
      have HBr := Lib.hid hBr
      clear hall hBr
      go_wp2_with fail
      go_ret
      exact ⟨rfl, HBr.out⟩
set_option maxHeartbeats 4000000 in
theorem vectors_any (w : World) (n : Int) (b : Nat) (vs : List Vw) (hb : Box w b (vs.flatMap Vw.cs)) (hok : ∀ v ∈ vs, v.r ≤ 512 ∧ v.c ≤ 512) (hl : vs.length ≤ 100) :
    Calls Try.prog 64 #[.int .i64 n, .slice (some ⟨b, 0, none⟩) vs.length vs.length] w fun e w' => e = .returned (.bool (vs.all fun v => vecV v.p v.r v.c && decide ((lenV v.p v.r v.c : Int) = n))) ∧ Below w.heap.size w w' := by
  obtain ⟨R, hR⟩ : ∃ R, R = (vs.all fun v => vecV v.p v.r v.c && decide ((lenV v.p v.r v.c : Int) = n)) := ⟨_, rfl⟩
  rw [← hR]
  have HR := Lib.hid hR
  have HB := Lib.hid (And.intro hb hok)
  have hbl := hb.lt
  clear hR hb hok
  go_enter Try.func64, Try.ntmps64
  go_wp2_with fail
  go_loopw [9] (fun s9 wr => ∃ i : Nat, i ≤ vs.length ∧ s9 = .int .i64 i ∧ (∀ v ∈ vs.take i, (vecV v.p v.r v.c && decide ((lenV v.p v.r v.c : Int) = n)) = true) ∧ Below w.heap.size w wr) (fun s9 _ => vs.length - (intOf s9).toNat)
  case atStart => exact ⟨0, Nat.zero_le _, rfl, fun v hv => by simp at hv, Below.refl _ _⟩
  case round =>
    obtain ⟨i, hi, rfl, hall, hBr⟩ := hrel
    by_cases hlt : i < vs.length
    · obtain ⟨v, hv⟩ : ∃ v, vs[i]? = some v := ⟨vs[i], List.getElem?_eq_getElem hlt⟩
      have hc := fun k hk => (((HB.out.1.below hBr).cell (i * 6 + k)).trans (cs_at vs i v hv k hk))
      have c0 : wr.cell? ⟨b, i * 6, none⟩ = some (.pointer v.p) := hc 0 (by decide)
      have c1 : wr.cell? ⟨b, i * 6 + 1, none⟩ = some (.int .i64 v.r) := hc 1 (by decide)
      have c2 : wr.cell? ⟨b, i * 6 + 2, none⟩ = some (.int .i64 v.c) := hc 2 (by decide)
      have c3 : wr.cell? ⟨b, i * 6 + 3, none⟩ = some (.int .i64 v.o) := hc 3 (by decide)
      have c4 : wr.cell? ⟨b, i * 6 + 4, none⟩ = some (.int .i64 v.d) := hc 4 (by decide)
      have c5 : wr.cell? ⟨b, i * 6 + 5, none⟩ = some (.int .i64 v.u) := hc 5 (by decide)
      have HBr := Lib.hid (show _ ∧ _ ∧ _ ∧ _ from ⟨hBr, hall, hlt, hv⟩)
      have hbr := Nat.lt_of_lt_of_le hbl hBr.size
      have hsm := HB.out.2 v (List.mem_of_getElem? hv)
      have hbA : Below wr.heap.size wr (wr.alloc (.cells #[.pointer v.p, .int .i64 v.r, .int .i64 v.c, .int .i64 v.o, .int .i64 v.d, .int .i64 v.u] 29)) := (Below.refl _ _).alloc (Nat.le_refl _) _
      have hB1 := below_step hBr hBr.size hbA
      have hbx := Box.newA wr [.pointer v.p, .int .i64 v.r, .int .i64 v.c, .int .i64 v.o, .int .i64 v.d, .int .i64 v.u] 29 rfl
      have HV := Lib.hid (Vector_any v.p v.r v.c v.o v.d v.u (wr.alloc (.cells #[.pointer v.p, .int .i64 v.r, .int .i64 v.c, .int .i64 v.o, .int .i64 v.d, .int .i64 v.u] 29)))
      have HL := Lib.hid (fun W => Len_any v.p v.r v.c v.o v.d v.u W hsm.1 hsm.2)
      have HB1 := Lib.hid (And.intro hB1 hbx)
      have hd : ((lenV v.p v.r v.c : Int) != n) = !decide ((lenV v.p v.r v.c : Int) = n) := by rw [Bool.eq_iff_iff]; simp
      clear hc hall hv hi hBr hbA hB1 hbx hsm
      go_wp2_with fail
      refine HV.out.mono ?_
      rintro e w1 ⟨rfl, hb1⟩
      have hB2 := below_step HB1.out.1 HB1.out.1.size hb1
      have hx2 := HB1.out.2.below hb1
      obtain ⟨q1, q2, q3⟩ := hx2.facts
      have HB2 := Lib.hid hB2
      clear HV hb1 HB1 c0 c1 c2 c3 c4 c5 hB2 hx2
      cases hv : vecV v.p v.r v.c with
      | false =>
        have hf : R = false := by
          rw [HR.out, List.all_eq_false]
          exact ⟨v, List.mem_of_getElem? HBr.out.2.2.2, by rw [hv]; simp⟩
        subst hf
        go_wp2_with fail
        go_ret
        exact ⟨rfl, HB2.out⟩
      | true =>
        have HP := Lib.hid hv
        clear hv
        go_wp2_with fail
        refine (HL.out _).mono ?_
        rintro e w3 ⟨rfl, hb3⟩
        have HB3 := Lib.hid (below_step HB2.out HB2.out.size hb3)
        clear hb3 HB2 q1 q2 q3 HL
        cases hn : decide ((lenV v.p v.r v.c : Int) = n) with
        | false =>
          rw [hn] at hd
          have hf : R = false := by
            rw [HR.out, List.all_eq_false]
            exact ⟨v, List.mem_of_getElem? HBr.out.2.2.2, by rw [hn, HP.out]; decide⟩
          subst hf
          clear hn
          go_wp2_with fail
          go_ret
          exact ⟨rfl, HB3.out⟩
        | true =>
          rw [hn] at hd
          have HQ := Lib.hid hn
          clear hn
          go_wp2_with fail
          go_roundw
          case rel => exact ⟨i + 1, HBr.out.2.2.1, by go_num, fun u hu => by
            rw [List.take_succ_eq_append_getElem HBr.out.2.2.1, List.mem_append, List.mem_singleton] at hu
            rcases hu with hu | hu
            · exact HBr.out.2.1 u hu
            · have h1 := HBr.out.2.2.2
              rw [List.getElem?_eq_getElem HBr.out.2.2.1, Option.some.injEq] at h1
              rw [hu, h1, HP.out, HQ.out]; rfl, HB3.out⟩
          case measure => have := HBr.out.2.2.1; simp [intOf]; omega
    · obtain rfl : i = vs.length := by omega
      have ht : R = true := by
        rw [HR.out, List.all_eq_true]
        intro v hv
        exact hall v (by rw [List.take_length]; exact hv)
      subst ht
      have HBr := Lib.hid hBr
      clear hall hBr
      go_wp2_with fail
      go_ret
      exact ⟨rfl, HBr.out⟩
/-- Why views don't do. -/
def openE (vs : List Vw) (fits : Bool) : Int := if (vs.all fun v => v.p.isSome) then (if fits then 0 else 8) else 1
set_option maxHeartbeats 4000000 in
theorem open_any (w : World) (f : FuncId) (cap : Array Value) (b : Nat) (vs : List Vw) (fits : Bool) (hb : Box w b (vs.flatMap Vw.cs)) (hok : ∀ v ∈ vs, ∃ sb ws, v.Ok w sb ws) (hl : vs.length ≤ 100) (hE : Enters Try.prog f)
    (hf : (vs.all fun v => v.p.isSome) = true → ∀ W, Below w.heap.size w W → Calls Try.prog f cap W fun e w' => e = .returned (.bool fits) ∧ Below W.heap.size W w') :
    Calls Try.prog 61 #[.func (.func f) #[] cap, .slice (some ⟨b, 0, none⟩) vs.length vs.length] w fun e w' => e = .returned (.int .i64 (openE vs fits)) ∧ Below w.heap.size w w' := by
  have HT := Lib.hid (there_any w b vs hb hok hl)
  have HE := Lib.hid hE
  unfold openE
  generalize (vs.all fun v => v.p.isSome) = R at *
  clear hb hok hE hl
  cases R
  · clear hf
    go_enter Try.func61, Try.ntmps61
    go_wp2_with fail
    refine HT.out.mono ?_
    rintro e w1 ⟨rfl, hb1⟩
    dsimp only
    go_wp2_with fail
    go_ret
    exact ⟨rfl, hb1⟩
  · have HF := Lib.hid (hf rfl)
    clear hf
    go_enter Try.func61, Try.ntmps61
    go_wp2_with fail
    refine HT.out.mono ?_
    rintro e w1 ⟨rfl, hb1⟩
    have HB1 := Lib.hid hb1
    clear hb1
    dsimp only
    go_wp2_with fail
    rw [HE.out _ _]
    go_simp
    refine (HF.out w1 HB1.out).mono ?_
    rintro e w2 ⟨rfl, hb2⟩
    have HB2 := Lib.hid (below_step HB1.out HB1.out.size hb2)
    clear hb2
    dsimp only
    cases fits
    all_goals
      go_wp2_with fail
      go_ret
      exact ⟨rfl, HB2.out⟩
set_option maxHeartbeats 4000000 in
theorem open_anyM (w : World) (f : FuncId) (first : Array Value) (b : Nat) (vs : List Vw) (fits : Bool) (hb : Box w b (vs.flatMap Vw.cs)) (hok : ∀ v ∈ vs, ∃ sb ws, v.Ok w sb ws) (hl : vs.length ≤ 100) (hE : Enters Try.prog f)
    (hf : (vs.all fun v => v.p.isSome) = true → ∀ W, Below w.heap.size w W → Calls Try.prog f first W fun e w' => e = .returned (.bool fits) ∧ Below W.heap.size W w') :
    Calls Try.prog 61 #[.func (.func f) first #[], .slice (some ⟨b, 0, none⟩) vs.length vs.length] w fun e w' => e = .returned (.int .i64 (openE vs fits)) ∧ Below w.heap.size w w' := by
  have HT := Lib.hid (there_any w b vs hb hok hl)
  have HE := Lib.hid hE
  unfold openE
  generalize (vs.all fun v => v.p.isSome) = R at *
  clear hb hok hE hl
  cases R
  · clear hf
    go_enter Try.func61, Try.ntmps61
    go_wp2_with fail
    refine HT.out.mono ?_
    rintro e w1 ⟨rfl, hb1⟩
    dsimp only
    go_wp2_with fail
    go_ret
    exact ⟨rfl, hb1⟩
  · have HF := Lib.hid (hf rfl)
    clear hf
    go_enter Try.func61, Try.ntmps61
    go_wp2_with fail
    refine HT.out.mono ?_
    rintro e w1 ⟨rfl, hb1⟩
    have HB1 := Lib.hid hb1
    clear hb1
    dsimp only
    go_wp2_with fail
    rw [HE.out _ _]
    go_simp
    refine (HF.out w1 HB1.out).mono ?_
    rintro e w2 ⟨rfl, hb2⟩
    have HB2 := Lib.hid (below_step HB1.out HB1.out.size hb2)
    clear hb2
    dsimp only
    cases fits
    all_goals
      go_wp2_with fail
      go_ret
      exact ⟨rfl, HB2.out⟩
end Go.Proofs.Ytbcdpibcieadlaa
