/- Arguments opened: slices of floats, nil told. No condition. -/
import Derived.Test.YtdljnhdhigbefaaZz29
namespace Go.Proofs.Ytdljnhdhigbefaa
open Go Go.RowKit Go.ChangeShapes Go.WideShapes Go.Deep
section
variable {H : Type} {enc : TypeId × Value → H} {P : Program} {w : World} {base : Nat} {spare : Nat → Bool} {held : Bool}
/-- A slice of floats: where it lies, its floats; a nil one has none. -/
theorem open_inf {t e : TypeId} {fuel : Nat} {v : Value} {x : DataW H × List MemPlace} (ht : P.underlying t = some (.slice e)) (he : P.underlying e = some (.float .f64)) (hc : P.cellsOf e = 1) (h : DataW.trod enc P w base spare held fuel t [v] = some x) :
    ∃ (a : Option Addr) (zs : List Nat) (cap : Nat), v = .slice a zs.length cap ∧ Fls w a zs ∧ Words zs ∧ zs.length ≤ maxLen ∧ (a = none → zs = [] ∧ cap = 0) := by
  obtain ⟨a, zs, cap, hv, h1, h2, h3⟩ := open_fls ht he hc h
  refine ⟨a, zs, cap, hv, h1, h2, h3, fun ha => ?_⟩
  subst ha
  rcases open_slice1 ht hc h with ⟨k1, _⟩ | ⟨a', len, cap', m, n, V, D, Pl, k1, _⟩
  · simp only [List.cons.injEq, and_true] at k1
    rw [k1] at hv
    simp only [Value.slice.injEq] at hv
    exact ⟨List.eq_nil_of_length_eq_zero hv.2.1.symm, hv.2.2.symm⟩
  · simp only [List.cons.injEq, and_true] at k1
    rw [k1] at hv
    simp at hv
end
end Go.Proofs.Ytdljnhdhigbefaa

/- An argument opened: a float. No condition. -/
namespace Go.Proofs.Ytdljnhdhigbefaa
open Go Go.RowKit Go.ChangeShapes Go.WideShapes Go.Deep

section
variable {H : Type} {enc : TypeId × Value → H} {P : Program} {w : World} {base : Nat} {spare : Nat → Bool} {held : Bool}
theorem open_f64w {r : Reach} {b0 : Nat} {t : TypeId} {v : Value} {d : DataW H} {ps : List MemPlace} (ht : P.underlying t = some (.float .f64)) (hval : Value.okWide P w r b0 t v) (hd : DataW.Trod enc P w base spare held t v d ps) :
    ∃ n, v = .float .f64 n ∧ d = .lit (.float .f64 n) ∧ ps = [] ∧ n < 18446744073709551616 := by
  obtain ⟨n, rfl⟩ : ∃ n, v = .float .f64 n := by
    simp only [Value.okWide, ht, Cell.okWide] at hval
    cases v <;> simp_all [Cell.ok]
  obtain ⟨fuel, hf⟩ := hd
  obtain ⟨n', h, hx, hw⟩ := trod_f64 ht hf
  simp [Value.cells] at h
  subst h
  simp only [Prod.mk.injEq] at hx
  exact ⟨n, rfl, hx.1, hx.2, hw⟩
end
end Go.Proofs.Ytdljnhdhigbefaa
