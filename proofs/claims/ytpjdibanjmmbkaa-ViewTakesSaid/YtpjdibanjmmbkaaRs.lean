/- The document's views: a float set. -/
import Derived.Test.YtpjdibanjmmbkaaRv9
import Derived.Test.YtpjdibanjmmbkaaRo
import Derived.Test.YtpjdibanjmmbkaaRc
namespace Go.Proofs.Ytpjdibanjmmbkaa
open Go Go.RowKit
set_option maxRecDepth 100000

theorem ownsRow_dn {A B : World} {base size n : Nat} {e : TypeId} {v : Value} {xs : List Value} (h : A.ownsRow base e size v n xs) (hb : Below A.heap.size A B) : B.ownsRow base e size v n xs := by
  refine ⟨h.1, ?_⟩
  rcases h.2 with h0 | ⟨g, cap, cur, h1, h2, h3, h4⟩
  · exact .inl h0
  · exact .inr ⟨g, cap, cur, h1, h2, by rw [hb.block g (Array.getElem?_eq_some_iff.1 h3).1]; exact h3, h4⟩

theorem plI_pls {v : Vw} {i j : Int} (h : inV v.r v.c i j = true) : ∃ p : Nat, plI v i j = (p : Int) ∧ p ∈ v.pls ∧ ∀ ws y, v.put ws i j y = ws.set p y := by
  obtain ⟨I, J, rfl, rfl, hI, hJ⟩ := inV_nat h
  refine ⟨v.o + I * v.d + J * v.u, ?_, ?_, ?_⟩
  · unfold plI; rw [h, if_pos rfl, Int.toNat_natCast, Int.toNat_natCast]
  · have hb : I * v.c + J < v.r * v.c := by have : (I + 1) * v.c ≤ v.r * v.c := Nat.mul_le_mul_right _ hI; rw [Nat.succ_mul] at this; omega
    have h3 : (I * v.c + J) / v.c = I := by rw [Nat.mul_comm, Nat.mul_add_div (by omega), Nat.div_eq_of_lt hJ]; rfl
    have h4 : (I * v.c + J) % v.c = J := by rw [Nat.mul_comm, Nat.mul_add_mod, Nat.mod_eq_of_lt hJ]
    have := List.mem_of_getElem? (pls_get hb)
    unfold Vw.pl at this
    rw [h3, h4] at this
    exact this
  · intro ws y
    unfold Vw.put
    rw [if_pos h, Int.toNat_natCast, Int.toNat_natCast]

set_option maxHeartbeats 4000000 in
theorem ref_set (w : World) (v : Vw) (da : Option Addr) (n dc : Nat) (ts : List Nat) (x : Value) (i j : Int) (y B db : Nat) {P : Nat → Prop} (h : RefV P w da n dc v x)
    (hD : w.ownsRow B 23 1 (.slice da n dc) n (ts.map (Value.float .f64))) (hdb : ∀ g o, da = some ⟨g, o, none⟩ → g = db) (hin : ∀ p ∈ v.pls, p < ts.length) (hr : v.r ≤ 512) (hc : v.c ≤ 512) :
    Calls Try.prog 47 #[x, .int .i64 i, .int .i64 j, .float .f64 y] w fun e w' => e = .returned (.int .i64 (v.putE i j)) ∧ w'.ownsRow B 23 1 (.slice da n dc) n ((v.put ts i j y).map (Value.float .f64)) ∧ Bel w.heap.size db w w' := by
  have HP := Lib.hid (fun (W : World) (hW : Below w.heap.size w W) => ref_place W v da n dc x i j (h.below hW) hr hc)
  obtain ⟨ea, en, ec, aa, ac, rfl, h2, h3, hA, _⟩ := h
  clear hA hr hc
  have hlt : ts.length = n := by have := hD.1; simpa using this
  have HD := Lib.hid (fun (W : World) (hW : Below w.heap.size w W) => ownsRow_dn hD hW)
  cases his : v.p.isSome
  case false =>
    obtain ⟨rfl, rfl, rfl, rfl⟩ := h3 his
    have e0 : Vw.none.putE i j = 1 := rfl
    have e1 : Vw.none.put ts i j y = ts := by
      unfold Vw.put
      rw [if_neg]
      unfold inV
      simp only [decide_eq_true_eq]
      show ¬(0 ≤ i ∧ i < ((0 : Nat) : Int) ∧ _)
      omega
    rw [e0, e1, show Vw.none.r = 0 from rfl, show Vw.none.c = 0 from rfl]
    clear h2 h3 HP hin his e0 e1
    have hB0 : Below w.heap.size w (w.alloc (.cells #[.slice none 0 0, .int .i64 (0 : Nat), .int .i64 (0 : Nat), .slice aa (0 * 0) ac, .bool false] 48)) := (Below.refl _ _).alloc (Nat.le_refl _) _
    go_enter Try.func47, Try.ntmps47
    go_wp2
    go_ret
    exact ⟨rfl, HD.out _ hB0, Bel.of hB0⟩
  case true =>
    obtain ⟨rfl, rfl, rfl⟩ := h2 his
    rw [his] at HP
    have hpe : v.putE i j = if inV v.r v.c i j then 0 else 2 := by unfold Vw.putE; rw [if_pos his]
    rw [hpe]
    clear hpe h2 h3
    cases hv : inV v.r v.c i j
    case false =>
      have e0 : plI v i j = -1 := by unfold plI; rw [hv]; rfl
      have e1 : v.put ts i j y = ts := by unfold Vw.put; rw [hv]; rfl
      rw [e0] at HP
      rw [e1, if_neg (by decide)]
      clear e0 e1 hin hv his
      generalize v.r * v.c = an at *
      generalize v.r = r at *
      generalize v.c = c at *
      have hB0 : Below w.heap.size w (w.alloc (.cells #[.slice ea en ec, .int .i64 r, .int .i64 c, .slice aa an ac, .bool true] 48)) := (Below.refl _ _).alloc (Nat.le_refl _) _
      go_enter Try.func47, Try.ntmps47
      go_wp2_with fail
      refine (HP.out _ hB0).mono ?_
      rintro e w1 ⟨rfl, hb1⟩
      have hB1 := below_step hB0 hB0.size hb1
      go_wp2
      go_ret
      exact ⟨rfl, HD.out _ hB1, Bel.of hB1⟩
    case true =>
      obtain ⟨p, e0, hp, e1⟩ := plI_pls hv
      have hpl := hin p hp
      rw [e0] at HP
      rw [e1, if_pos rfl]
      clear e0 e1 hin hv his hp
      generalize v.r * v.c = an at *
      generalize v.r = r at *
      generalize v.c = c at *
      have hB0 : Below w.heap.size w (w.alloc (.cells #[.slice ea en ec, .int .i64 r, .int .i64 c, .slice aa an ac, .bool true] 48)) := (Below.refl _ _).alloc (Nat.le_refl _) _
      have x0 : Box (w.alloc (.cells #[.slice ea en ec, .int .i64 r, .int .i64 c, .slice aa an ac, .bool true] 48)) w.heap.size [.slice ea en ec, .int .i64 r, .int .i64 c, .slice aa an ac, .bool true] := Box.newA w [_, _, _, _, _] _ rfl
      have hg : ∃ g, ea = some ⟨g, 0, none⟩ := by
        rcases hD.2 with ⟨_, h0⟩ | ⟨g, cap', cur, h1, _⟩
        · omega
        · simp only [Value.slice.injEq] at h1; exact ⟨g, h1.1⟩
      obtain ⟨g, rfl⟩ := hg
      obtain rfl := hdb g 0 rfl
      have hgl := (hD.lt g rfl).2
      clear hdb
      go_enter Try.func47, Try.ntmps47
      go_wp2_with fail
      refine (HP.out _ hB0).mono ?_
      rintro e w1 ⟨rfl, hb1⟩
      have hB1 := below_step hB0 hB0.size hb1
      have hD1 := HD.out _ hB1
      have c1 : w1.cell? ⟨g, p, none⟩ = some (.float .f64 (ts.getD p 0)) := by
        rw [hD1.cellAt p (by omega)]
        simp [hpl]
      have c2 := hD1.frozenAt p
      have hgl1 : g < w1.heap.size := Nat.lt_of_lt_of_le hgl hB1.size
      have HD1 := Lib.hid hD1
      clear HD hD hD1 HP
      obtain ⟨a1, a2, a3⟩ := (x0.below hb1).facts
      go_wp2
      go_ret
      refine ⟨rfl, ?_, (Bel.of hB1).set _ _⟩
      have := (HD1.out.stored p (.float .f64 y)).1
      rw [List.map_set]
      exact this
end Go.Proofs.Ytpjdibanjmmbkaa
