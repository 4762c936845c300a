/- An argument opened: a slice of structs of five ints. No condition. -/
import Derived.Test.YtpjdibanjmmbkaaOpn2
import Derived.Test.YtpjdibanjmmbkaaRc
namespace Go.Proofs.Ytpjdibanjmmbkaa
open Go Go.RowKit Go.ChangeShapes Go.WideShapes Go.Deep

section
variable {H : Type} {enc : TypeId × Value → H} {P : Program} {w : World} {base : Nat} {spare : Nat → Bool} {held : Bool}
instance : Inhabited Stp := ⟨⟨0, 0, 0, 0, 0⟩⟩
theorem add_none (b off j : Nat) : (Addr.add ⟨b, off, none⟩ j) = ⟨b, off + j, none⟩ := by
  unfold Addr.add
  split
  · subst_vars; rfl
  · rfl
theorem open_steps {r : Reach} {b0 : Nat} {t e ti : TypeId} {v : Value} {fuel : Nat} {x : DataW H × List MemPlace} {f0 f1 f2 f3 f4 : Field} (ht : P.underlying t = some (.slice e)) (hs : P.underlying e = some (.struct #[f0, f1, f2, f3, f4]))
    (hf : [f0, f1, f2, f3, f4].all (fun f => f.type == ti) = true) (ho : f0.offset = 0 ∧ f1.offset = 1 ∧ f2.offset = 2 ∧ f3.offset = 3 ∧ f4.offset = 4) (hi : P.underlying ti = some (.int .i64)) (hc : P.cellsOf ti = 1) (hC : P.cellsOf e = 5)
    (_hv : Value.okWide P w r b0 t v) (h : DataW.trod enc P w base spare held fuel t v.cells.toList = some x) :
    ∃ (a : Option Addr) (ks : List Stp) (cap : Nat), v = .slice a ks.length cap ∧ Stc w a ks ∧ ks.length ≤ maxLen := by
  have one : ∀ a n c, v.cells.toList = [.slice a n c] → v = .slice a n c := fun a n c hh => by
    obtain ⟨c', n', cap', rfl⟩ : ∃ c' n' cap', v = .slice c' n' cap' := okWide_slice ht _hv
    simpa [Value.cells] using hh
  rcases open_slice ht h with ⟨h1, h2⟩ | ⟨a, len, cap, m, n, D, Pl, h1, hb, hl, hm, hmm, h2, hx⟩
  · exact ⟨none, [], 0, one _ _ _ h1, fun hz => absurd rfl hz, Nat.zero_le _⟩
  · have hlm : len ≤ m := by rw [hmm]; split <;> omega
    obtain ⟨F, hF⟩ := choose_lt (α := Stp) (p := fun i s => w.cell? ((a.add (i * 5)).add 0) = some (.int .i64 s.K) ∧ w.cell? ((a.add (i * 5)).add 1) = some (.int .i64 s.A) ∧ w.cell? ((a.add (i * 5)).add 2) = some (.int .i64 s.B) ∧ w.cell? ((a.add (i * 5)).add 3) = some (.int .i64 s.C) ∧ w.cell? ((a.add (i * 5)).add 4) = some (.int .i64 s.D)) (n := len) (fun i hi => by
      obtain ⟨cs', k1, k2⟩ := hx i (by omega)
      rw [hC] at k1
      obtain ⟨_, _, hcell⟩ := World.cells?_some k1
      obtain ⟨K, A, B, C, D', rfl, _⟩ := trod_ints5 hs hf ho ‹_› hc hC k2
      exact ⟨⟨K, A, B, C, D'⟩, hcell 0 (by decide), hcell 1 (by decide), hcell 2 (by decide), hcell 3 (by decide), hcell 4 (by decide)⟩)
    refine ⟨some a, (List.range len).map F, cap, by rw [one _ _ _ h1]; simp, ?_, by simp; omega⟩
    intro hz
    have hlen : 0 < len := by
      cases len with
      | zero => exact absurd rfl hz
      | succ n => omega
    have h0 := (hF 0 hlen).1
    obtain ⟨b, off, spot⟩ := a
    have hsp : spot = none ∧ b < w.heap.size := by
      unfold Addr.add World.cell? at h0
      simp only [Nat.zero_mul, if_true] at h0
      cases hh : w.heap[b]? with
      | none => rw [hh] at h0; cases h0
      | some o =>
        rw [hh] at h0
        refine ⟨?_, (Array.getElem?_eq_some_iff.1 hh).1⟩
        cases o with
        | cells c T r => simp only [] at h0; cases spot with
          | none => rfl
          | some s => simp at h0
        | _ => simp at h0
    obtain ⟨rfl, hbl⟩ := hsp
    refine ⟨b, off, rfl, hbl, fun i s hv => ?_⟩
    simp only [List.getElem?_map, Option.map_eq_some_iff] at hv
    obtain ⟨j, hj, rfl⟩ := hv
    have hi : i < len := by
      by_cases hi : i < len
      · exact hi
      · rw [List.getElem?_eq_none (by simp; omega)] at hj; cases hj
    rw [List.getElem?_range hi] at hj
    cases hj
    obtain ⟨g0, g1, g2, g3, g4⟩ := hF i hi
    rw [add_none, add_none] at g0 g1 g2 g3 g4
    exact ⟨g0, g1, g2, g3, g4⟩
theorem open_f64v {r : Reach} {b0 : Nat} {t : TypeId} {v : Value} {d : DataW H} {ps : List MemPlace} (ht : P.underlying t = some (.float .f64)) (hval : Value.okWide P w r b0 t v) (hd : DataW.Trod enc P w base spare held t v d ps) :
    ∃ n, v = .float .f64 n ∧ d = .lit (.float .f64 n) ∧ ps = [] ∧ n < 18446744073709551616 := by
  obtain ⟨n, rfl⟩ : ∃ n, v = .float .f64 n := by
    simp only [Value.okWide, ht, Cell.okWide] at hval
    cases v <;> simp_all [Cell.ok]
  obtain ⟨fuel, hf⟩ := hd
  obtain ⟨n', h, hx, hw⟩ := trod_f64 ht hf
  simp [Value.cells] at h
  subst h
  simp only [Prod.mk.injEq] at hx
  exact ⟨n, rfl, hx.1, hx.2, hw⟩
theorem trodAll_five {t0 t1 t2 t3 t4 : TypeId} {args : Array Value} {ds : List (DataW H)} {ps : List MemPlace} (h : DataW.TrodAll enc P w base spare held [t0, t1, t2, t3, t4] args.toList ds ps) :
    ∃ v0 v1 v2 v3 v4 d0 d1 d2 d3 d4 p0 p1 p2 p3 p4, args = #[v0, v1, v2, v3, v4] ∧ ds = [d0, d1, d2, d3, d4] ∧ ps = p0 ++ p1 ++ p2 ++ p3 ++ p4 ∧ DataW.Trod enc P w base spare held t0 v0 d0 p0 ∧ DataW.Trod enc P w base spare held t1 v1 d1 p1 ∧ DataW.Trod enc P w base spare held t2 v2 d2 p2 ∧ DataW.Trod enc P w base spare held t3 v3 d3 p3 ∧ DataW.Trod enc P w base spare held t4 v4 d4 p4 := by
  obtain ⟨v0, vs0, d0, ds0, p0, q0, hargs, rfl, rfl, hd0, h1⟩ := trodAll_cons h
  obtain ⟨v1, vs1, d1, ds1, p1, q1, rfl, rfl, rfl, hd1, h2⟩ := trodAll_cons h1
  obtain ⟨v2, vs2, d2, ds2, p2, q2, rfl, rfl, rfl, hd2, h3⟩ := trodAll_cons h2
  obtain ⟨v3, vs3, d3, ds3, p3, q3, rfl, rfl, rfl, hd3, h4⟩ := trodAll_cons h3
  obtain ⟨v4, vs4, d4, ds4, p4, q4, rfl, rfl, rfl, hd4, h5⟩ := trodAll_cons h4
  obtain ⟨rfl, rfl, rfl⟩ := trodAll_nil h5
  exact ⟨v0, v1, v2, v3, v4, d0, d1, d2, d3, d4, p0, p1, p2, p3, p4, by cases args; simp_all, rfl, by simp, hd0, hd1, hd2, hd3, hd4⟩
end
end Go.Proofs.Ytpjdibanjmmbkaa
