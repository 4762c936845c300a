/- The document's views: one relation, all cuts. -/
import Derived.Test.YtpjdibanjmmbkaaRv5
namespace Go.Proofs.Ytpjdibanjmmbkaa
open Go Go.RowKit
set_option maxRecDepth 100000

/-- x is the document's view of v, in the store da (of dn floats); its list of places lies in a block that P holds of. -/
def RefV (P : Nat → Prop) (W : World) (da : Option Addr) (dn dc : Nat) (v : Vw) (x : Value) : Prop :=
  ∃ ea en ec aa ac, x = .agg #[.slice ea en ec, .int .i64 v.r, .int .i64 v.c, .slice aa (v.r * v.c) ac, .bool v.p.isSome] ∧ (v.p.isSome = true → ea = da ∧ en = dn ∧ ec = dc) ∧ (v.p.isSome = false → ea = none ∧ en = 0 ∧ ec = 0 ∧ v = Vw.none) ∧ Itc W aa v.pls ∧ (v.pls ≠ [] → ∃ b off, aa = some ⟨b, off, none⟩ ∧ P b)
theorem RefV.below {P : Nat → Prop} {W W' : World} {da : Option Addr} {dn dc : Nat} {v : Vw} {x : Value} (h : RefV P W da dn dc v x) (hb : Below W.heap.size W W') : RefV P W' da dn dc v x := by
  obtain ⟨ea, en, ec, aa, ac, h1, h2, h3, h4, h5⟩ := h
  exact ⟨ea, en, ec, aa, ac, h1, h2, h3, h4.below hb, h5⟩
theorem RefV.imp {P P' : Nat → Prop} {W : World} {da : Option Addr} {dn dc : Nat} {v : Vw} {x : Value} (h : RefV P W da dn dc v x) (hp : ∀ b, P b → P' b) : RefV P' W da dn dc v x := by
  obtain ⟨ea, en, ec, aa, ac, h1, h2, h3, h4, h5⟩ := h
  exact ⟨ea, en, ec, aa, ac, h1, h2, h3, h4, fun hz => by obtain ⟨b, off, e, hb⟩ := h5 hz; exact ⟨b, off, e, hp b hb⟩⟩
theorem Itc.bel {P : Nat → Prop} {W W' : World} {aa : Option Addr} {ps : List Nat} {s : Nat} (h : Itc W aa ps) (h5 : ps ≠ [] → ∃ b off, aa = some ⟨b, off, none⟩ ∧ P b) (hs : ¬ P s) (hb : Bel W.heap.size s W W') : Itc W' aa ps := fun hz => by
  obtain ⟨b, off, e, hlt, hc⟩ := h hz
  obtain ⟨b', off', e', hp⟩ := h5 hz
  rw [e] at e'
  simp only [Option.some.injEq, Addr.mk.injEq] at e'
  obtain ⟨rfl, _⟩ := e'
  have hne : b ≠ s := fun hh => hs (hh ▸ hp)
  refine ⟨b, off, e, Nat.lt_of_lt_of_le hlt hb.size, fun i p hi => ?_⟩
  rw [hb.cell hlt hne]
  exact hc i p hi
theorem RefV.bel {P : Nat → Prop} {W W' : World} {da : Option Addr} {dn dc : Nat} {v : Vw} {x : Value} {s : Nat} (h : RefV P W da dn dc v x) (hs : ¬ P s) (hb : Bel W.heap.size s W W') : RefV P W' da dn dc v x := by
  obtain ⟨ea, en, ec, aa, ac, h1, h2, h3, h4, h5⟩ := h
  exact ⟨ea, en, ec, aa, ac, h1, h2, h3, h4.bel h5 hs hb, h5⟩
theorem none_pls : Vw.none.pls = [] := rfl
theorem RefV.none (P : Nat → Prop) (W : World) (da : Option Addr) (dn dc : Nat) : RefV P W da dn dc Vw.none (.agg #[.slice none 0 0, .int .i64 0, .int .i64 0, .slice none 0 0, .bool false]) :=
  ⟨Option.none, 0, 0, Option.none, 0, rfl, fun h => absurd h (by decide), fun _ => ⟨rfl, rfl, rfl, rfl⟩, fun h => absurd none_pls h, fun h => absurd none_pls h⟩

theorem RT_ref (w : World) (v : Vw) (da : Option Addr) (dn dc : Nat) (x : Value) {P : Nat → Prop} (h : RefV P w da dn dc v x) (hr : v.r ≤ 512) (hc : v.c ≤ 512) :
    Calls Try.prog 71 #[x] w fun e w' => ∃ x', e = .returned x' ∧ RefV (fun b => w.heap.size ≤ b) w' da dn dc v.T x' ∧ Below w.heap.size w w' := by
  obtain ⟨ea, en, ec, aa, ac, rfl, h2, h3, h4, _⟩ := h
  refine (RT_any w v ea en ec aa ac v.p.isSome h4 hr hc).mono ?_
  rintro e w' ⟨sv, rfl, hrow, hb⟩
  obtain ⟨a, cap, rfl, hI, hI5⟩ := itc_of_rowB hrow
  rw [pls_length]
  exact ⟨_, rfl, ⟨ea, en, ec, a, cap, rfl, h2, fun hp => by obtain ⟨q1, q2, q3, q4⟩ := h3 hp; exact ⟨q1, q2, q3, by rw [q4]; rfl⟩, hI, hI5⟩, hb⟩

theorem RPart_ref (w : World) (v : Vw) (da : Option Addr) (dn dc : Nat) (x : Value) (i j a b : Int) {P : Nat → Prop} (h : RefV P w da dn dc v x) (hr : v.r ≤ 512) (hc : v.c ≤ 512) :
    Calls Try.prog 74 #[x, .int .i64 i, .int .i64 j, .int .i64 a, .int .i64 b] w fun e w' => ∃ x', e = .returned x' ∧ RefV (fun b => w.heap.size ≤ b) w' da dn dc (v.part i j a b) x' ∧ Below w.heap.size w w' := by
  obtain ⟨ea, en, ec, aa, ac, rfl, h2, h3, h4, _⟩ := h
  cases hf : (v.p.isSome && fitsV i a v.r && fitsV j b v.c)
  case false =>
    refine (RPart_no w ea en ec v.r v.c aa (v.r * v.c) ac v.p.isSome i j a b hr hc hf).mono ?_
    rintro e w' ⟨rfl, hb⟩
    have e0 : v.part i j a b = Vw.none := by unfold Vw.part; rw [hf]; rfl
    rw [e0]
    exact ⟨_, rfl, RefV.none _ w' da dn dc, hb⟩
  case true =>
    simp only [Bool.and_eq_true] at hf
    obtain ⟨I, A, rfl, rfl, hI⟩ := fits_nat hf.1.2
    obtain ⟨J, B, rfl, rfl, hJ⟩ := fits_nat hf.2
    have e1 : v.part I J A B = ⟨v.p, A, B, v.o + I * v.d + J * v.u, v.d, v.u⟩ := by
      unfold Vw.part fitsV
      rw [if_pos (by simp [hf.1.1]; omega)]
      simp only [Int.toNat_natCast]
    have hk := RPart_yes w v ea en ec aa ac I J A B h4 hf.1.1 hr hc hI hJ
    rw [hf.1.1]
    refine hk.mono ?_
    rintro e w' ⟨sv, rfl, hrow, hb⟩
    obtain ⟨a, cap, rfl, hIt, hI5⟩ := itc_of_rowB hrow
    rw [pls_length]
    refine ⟨_, rfl, ⟨ea, en, ec, a, cap, ?_, fun _ => h2 hf.1.1, fun hp => ?_, hIt, hI5⟩, hb⟩
    · rw [e1]; show _ = Value.agg #[_, _, _, _, .bool v.p.isSome]; rw [hf.1.1]
    · rw [e1] at hp; rw [show (⟨v.p, A, B, v.o + I * v.d + J * v.u, v.d, v.u⟩ : Vw).p = v.p from rfl, hf.1.1] at hp; cases hp

theorem RDiag_ref (w : World) (v : Vw) (da : Option Addr) (dn dc : Nat) (x : Value) {P : Nat → Prop} (h : RefV P w da dn dc v x) (hr : v.r ≤ 512) (hc : v.c ≤ 512) :
    Calls Try.prog 75 #[x] w fun e w' => ∃ x', e = .returned x' ∧ RefV (fun b => w.heap.size ≤ b) w' da dn dc v.diag x' ∧ Below w.heap.size w w' := by
  obtain ⟨ea, en, ec, aa, ac, rfl, h2, h3, h4, _⟩ := h
  cases hf : v.p.isSome
  case false =>
    refine (RDiag_no w ea en ec v.r v.c aa (v.r * v.c) ac).mono ?_
    rintro e w' ⟨rfl, hb⟩
    have e0 : v.diag = Vw.none := by unfold Vw.diag; rw [hf]; rfl
    rw [e0]
    exact ⟨_, rfl, RefV.none _ w' da dn dc, hb⟩
  case true =>
    have ed : v.diag = ⟨v.p, min v.r v.c, 1, v.o, v.d + v.u, v.u⟩ := by unfold Vw.diag; rw [if_pos hf]
    refine (RDiag_yes w v ea en ec aa ac h4 hf hr hc).mono ?_
    rintro e w' ⟨sv, rfl, hrow, hb⟩
    obtain ⟨a, cap, rfl, hIt, hI5⟩ := itc_of_rowB hrow
    rw [pls_length]
    refine ⟨_, rfl, ⟨ea, en, ec, a, cap, ?_, fun _ => h2 hf, fun hp => ?_, hIt, hI5⟩, hb⟩
    · rw [ed]; show _ = Value.agg #[_, _, _, _, .bool v.p.isSome]; rw [hf]; rfl
    · rw [ed] at hp; rw [show (⟨v.p, min v.r v.c, 1, v.o, v.d + v.u, v.u⟩ : Vw).p = v.p from rfl, hf] at hp; cases hp

set_option maxHeartbeats 4000000 in
theorem RRow_ref (w : World) (v : Vw) (da : Option Addr) (dn dc : Nat) (x : Value) (i : Int) {P : Nat → Prop} (h : RefV P w da dn dc v x) (hr : v.r ≤ 512) (hc : v.c ≤ 512) :
    Calls Try.prog 72 #[x, .int .i64 i] w fun e w' => ∃ x', e = .returned x' ∧ RefV (fun b => w.heap.size ≤ b) w' da dn dc (v.row i) x' ∧ Below w.heap.size w w' := by
  have HP := Lib.hid (fun (W : World) (hW : Below w.heap.size w W) => RPart_ref W v da dn dc x i 0 1 v.c (h.below hW) hr hc)
  have HN : Hid (v.part i 0 1 v.c = v.row i) := rfl
  have hno : (i < 0 ∨ (v.r : Int) ≤ i) → v.row i = Vw.none := fun hi => by
    unfold Vw.row Vw.part
    rw [if_neg]
    simp only [Bool.and_eq_true, not_and]
    intro hp
    exfalso
    have := hp.2
    unfold fitsV at this
    simp at this
    omega
  have HNo := Lib.hid hno
  clear hno
  obtain ⟨ea, en, ec, aa, ac, rfl, h2, h3, h4, _⟩ := h
  clear h2 h3 h4
  generalize v.p.isSome = is at *
  generalize v.part i 0 1 v.c = vp at *
  generalize v.row i = vr at *
  generalize v.r * v.c = an at *
  generalize v.r = r at *
  generalize v.c = c at *
  have hB0 : Below w.heap.size w ((w.alloc (.cells #[.slice ea en ec, .int .i64 r, .int .i64 c, .slice aa an ac, .bool is] 48)).alloc (.cells #[.slice none 0 0, .int .i64 0, .int .i64 0, .slice none 0 0, .bool false] 48)) := ((Below.refl _ _).alloc (Nat.le_refl _) _).alloc (by simp) _
  have x0 : Box ((w.alloc (.cells #[.slice ea en ec, .int .i64 r, .int .i64 c, .slice aa an ac, .bool is] 48)).alloc (.cells #[.slice none 0 0, .int .i64 0, .int .i64 0, .slice none 0 0, .bool false] 48)) w.heap.size [.slice ea en ec, .int .i64 r, .int .i64 c, .slice aa an ac, .bool is] := (Box.newA w [_, _, _, _, _] _ rfl).alloc _
  have x1 : Box ((w.alloc (.cells #[.slice ea en ec, .int .i64 r, .int .i64 c, .slice aa an ac, .bool is] 48)).alloc (.cells #[.slice none 0 0, .int .i64 0, .int .i64 0, .slice none 0 0, .bool false] 48)) (w.heap.size + 1) [.slice none 0 0, .int .i64 0, .int .i64 0, .slice none 0 0, .bool false] := Box.newA _ [_, _, _, _, _] _ (by simp)
  have hs0 : ((w.alloc (.cells #[.slice ea en ec, .int .i64 r, .int .i64 c, .slice aa an ac, .bool is] 48)).alloc (.cells #[.slice none 0 0, .int .i64 0, .int .i64 0, .slice none 0 0, .bool false] 48)).heap.size = w.heap.size + 2 := by simp
  rcases (by omega : i < 0 ∨ (0 ≤ i ∧ (r : Int) ≤ i) ∨ (0 ≤ i ∧ i < r)) with hi | ⟨hi, hi2⟩ | ⟨hi, hi2⟩
  · have t1 : decide (i < 0) = true := decide_eq_true hi
    rw [HNo.out (.inl hi)]
    clear hi
    go_enter Try.func72, Try.ntmps72
    go_wp2
    generalize ((w.alloc (.cells #[.slice ea en ec, .int .i64 r, .int .i64 c, .slice aa an ac, .bool is] 48)).alloc (.cells #[.slice none 0 0, .int .i64 0, .int .i64 0, .slice none 0 0, .bool false] 48)) = W0 at x1 hB0 ⊢
    refine bodyPost_ret (results_one rfl (rv_cell (g := w.heap.size + 1) rfl x1 rfl Try.underlying48 (by kernel_rfl))) rfl ⟨_, rfl, RefV.none _ _ _ _ _, hB0⟩
  · have t1 : decide (i < 0) = false := decide_eq_false (by omega)
    have t2 : decide ((r : Int) ≤ i) = true := decide_eq_true hi2
    rw [HNo.out (.inr hi2)]
    clear hi hi2
    go_enter Try.func72, Try.ntmps72
    go_wp2
    generalize ((w.alloc (.cells #[.slice ea en ec, .int .i64 r, .int .i64 c, .slice aa an ac, .bool is] 48)).alloc (.cells #[.slice none 0 0, .int .i64 0, .int .i64 0, .slice none 0 0, .bool false] 48)) = W0 at x1 hB0 ⊢
    refine bodyPost_ret (results_one rfl (rv_cell (g := w.heap.size + 1) rfl x1 rfl Try.underlying48 (by kernel_rfl))) rfl ⟨_, rfl, RefV.none _ _ _ _ _, hB0⟩
  · have t1 : decide (i < 0) = false := decide_eq_false (by omega)
    have t2 : decide ((r : Int) ≤ i) = false := decide_eq_false (by omega)
    clear hi hi2 HNo
    go_enter Try.func72, Try.ntmps72
    go_wp2_with fail
    refine (HP.out _ hB0).mono ?_
    rintro e w2 ⟨x', rfl, hR, hb2⟩
    rw [HN] at hR
    have y1 := x1.below hb2
    have hB2 := below_step hB0 hB0.size hb2
    clear HP HN hB0 x0 x1 hb2
    obtain ⟨fa, fn, fc, ba, bc, rfl, g1, g2, g3, g5⟩ := hR
    obtain ⟨a1, a2, a3⟩ := y1.facts
    go_wp2
    refine bodyPost_ret (results_one rfl (rv_cell (g := w.heap.size + 1) rfl (y1.put5 _ _ _ _ _) rfl Try.underlying48 (by kernel_rfl))) rfl ⟨_, rfl, ⟨fa, fn, fc, ba, bc, rfl, g1, g2, ?_, fun hz => ?_⟩, ?_⟩
    · exact g3.bel g5 (by omega) (Bel.refl5 _ _ _ _ _ _)
    · obtain ⟨b, off, e, hb⟩ := g5 hz; exact ⟨b, off, e, by omega⟩
    · exact hB2.trans ((Bel.refl5 _ _ _ _ _ _).below (by omega))
end Go.Proofs.Ytpjdibanjmmbkaa
