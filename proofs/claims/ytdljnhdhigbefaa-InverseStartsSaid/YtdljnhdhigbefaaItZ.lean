/- Layer 14: all vectors while they are made. No condition but on lengths. -/
import Derived.Test.YtdljnhdhigbefaaZz24
namespace Go.Proofs.Ytdljnhdhigbefaa
open Go Go.RowKit
set_option maxRecDepth 1000000
set_option linter.unusedSimpArgs false
set_option linter.unusedVariables false

/-- A column put into a matrix's floats; all columns. -/
def putI (D col : List Nat) (k j : Nat) : Nat → List Nat
  | 0 => D
  | i + 1 => (putI D col k j i).set (i * k + j) (col.getD i 0)
theorem putI_len (D col : List Nat) (k j : Nat) : ∀ i, (putI D col k j i).length = D.length
  | 0 => rfl
  | i + 1 => by rw [putI, List.length_set, putI_len D col k j i]
def datI (made : List (List Nat)) (n k : Nat) : Nat → List Nat
  | 0 => List.replicate (n * k) 0
  | j + 1 => putI (datI made n k j) (made.getD j []) k j n
theorem datI_len (made : List (List Nat)) (n k : Nat) : ∀ j, (datI made n k j).length = n * k
  | 0 => by rw [datI, List.length_replicate]
  | j + 1 => by rw [datI, putI_len, datI_len made n k j]
theorem datI_app (made : List (List Nat)) (y : List Nat) (n k : Nat) : ∀ j, j ≤ made.length → datI (made ++ [y]) n k j = datI made n k j
  | 0, _ => rfl
  | j + 1, h => by
    rw [datI, datI, datI_app made y n k j (by omega), List.getD_eq_getElem?_getD, List.getElem?_append_left (by omega), ← List.getD_eq_getElem?_getD]
structure VcM (w5 W : World) (D n : Nat) (dat : List Nat) (sv : Value) (made : List (List Nat)) : Prop where
  d : Flb W D dat
  bl : Bls [D] w5.heap.size w5 W
  lt : D < w5.heap.size
  own : ∃ xs : List Value, OwnC 22 W w5.heap.size sv xs ∧ xs.length = made.length ∧ ∀ (i : Nat) (l : List Nat), made[i]? = some l → ∃ (ra : Option Addr) (rb rc : Nat), xs[i]? = some (Value.slice ra n rc) ∧ FS W ra rb l ∧ l.length = n ∧ w5.heap.size ≤ rb ∧ rb < W.heap.size ∧ sv.ownBlock ≠ some rb
section
variable {w5 W W' W1 : World} {D n : Nat} {dat : List Nat} {sv sv' : Value} {made : List (List Nat)}
theorem VcM.step (h : VcM w5 W D n dat sv made) (hb : Below W.heap.size W W') : VcM w5 W' D n dat sv made := by
  obtain ⟨xs, h1, h2, h3⟩ := h.own
  refine ⟨h.d.below hb, h.bl.trans (Bls.of (Below.mono hb h.bl.size)), h.lt, xs, h1.below hb, h2, fun i l hi => ?_⟩
  obtain ⟨ra, rb, rc, g1, g2, g3, g4, g5, g6⟩ := h3 i l hi
  have := hb.size
  exact ⟨ra, rb, rc, g1, g2.below hb, g3, g4, by omega, g6⟩
theorem OwnC.other {T : TypeId} {B g : Nat} {v : Value} {xs : List Value} (h : OwnC T W B v xs) (hg : g < B) (o : Nat) (u : Value) : OwnC T (W.setCell ⟨g, o, none⟩ u) B v xs :=
  ⟨h.1, by
    rcases h.2 with h0 | ⟨b, cap, cur, e, hB, hg2, rest⟩
    · exact .inl h0
    · exact .inr ⟨b, cap, cur, e, hB, by rw [((Bel.refl W.heap.size g W).set o u).block b (Array.getElem?_eq_some_iff.1 hg2).1 (by omega)]; exact hg2, rest⟩⟩
theorem VcM.setD (h : VcM w5 W D n dat sv made) (i v s : Nat) : VcM w5 (W.setCell ⟨D, i, none⟩ (.float .f64 (raw v s))) D n (dat.set i v) sv made := by
  obtain ⟨xs, h1, h2, h3⟩ := h.own
  have hl := h.lt
  refine ⟨h.d.set i v s, h.bl.set (by simp) _ _, h.lt, xs, h1.other hl _ _, h2, fun j l hi => ?_⟩
  obtain ⟨ra, rb, rc, g1, g2, g3, g4, g5, g6⟩ := h3 j l hi
  exact ⟨ra, rb, rc, g1, g2.otherU (by omega) _ _, g3, g4, Nat.lt_of_lt_of_le g5 ((Bel.refl W.heap.size D W).set _ _).size, g6⟩
theorem Flb.grownI {b : Nat} {l : List Nat} {row : Option Nat} (h : Flb W b l) (hg : W.grownBy W' row) (hne : row ≠ some b) : Flb W' b l := by
  obtain ⟨cs, h1, h2⟩ := h
  exact ⟨cs, h1.grown hg (fun r e e2 => hne (by rw [e, e2])), h2⟩
theorem FS.grownI {a : Option Addr} {b : Nat} {l : List Nat} {row : Option Nat} (h : FS W a b l) (hg : W.grownBy W' row) (hne : row ≠ some b) : FS W' a b l := h.imp id (fun ⟨h1, h2⟩ => ⟨h1, h2.grownI hg hne⟩)
theorem VcM.push {xs : List Value} {a : Option Addr} {b c : Nat} {l : List Nat} (h : VcM w5 W D n dat sv made) (ho : OwnC 22 W w5.heap.size sv xs) (hx : xs.length = made.length) (hr : ∀ (i : Nat) (l : List Nat), made[i]? = some l → ∃ (ra : Option Addr) (rb rc : Nat), xs[i]? = some (Value.slice ra n rc) ∧ FS W ra rb l ∧ l.length = n ∧ w5.heap.size ≤ rb ∧ rb < W.heap.size ∧ sv.ownBlock ≠ some rb)
    (hf : FS W a b l) (hl : l.length = n) (hb5 : w5.heap.size ≤ b) (hbW : b < W.heap.size) (hne : sv.ownBlock ≠ some b)
    (h1 : OwnC 22 W' w5.heap.size sv' (xs ++ [.slice a n c])) (h2 : Below w5.heap.size W W') (h3 : W.grownBy W' sv.ownBlock) (h4 : sv'.ownBlock = sv.ownBlock ∨ sv'.ownBlock = some (W.heap.size + 1)) : VcM w5 W' D n dat sv' (made ++ [l]) := by
  have hl5 := h.lt
  have hsv : sv.ownBlock ≠ some D := fun e => by have := (ho.lt D e).1; omega
  have hs := h3.size
  refine ⟨h.d.grownI h3 hsv, h.bl.trans (Bls.of h2), h.lt, xs ++ [.slice a n c], h1, by simp [hx], fun i l' hi => ?_⟩
  by_cases hil : i < made.length
  · rw [List.getElem?_append_left hil] at hi
    obtain ⟨ra, rb, rc, g1, g2, g3, g4, g5, g6⟩ := hr i l' hi
    exact ⟨ra, rb, rc, by rw [List.getElem?_append_left (by omega)]; exact g1, g2.grownI h3 g6, g3, g4, by omega, by
      rcases h4 with e | e
      · rw [e]; exact g6
      · rw [e]; intro e2; have := Option.some.inj e2; omega⟩
  · rw [List.getElem?_append_right (by omega)] at hi
    have hi0 : i - made.length = 0 := by
      by_cases e : i - made.length = 0
      · exact e
      · rw [List.getElem?_eq_none (by simp; omega)] at hi; cases hi
    rw [hi0] at hi
    simp only [List.getElem?_cons_zero, Option.some.injEq] at hi
    subst hi
    exact ⟨a, b, c, by rw [List.getElem?_append_right (by omega), hx, hi0]; rfl, hf.grownI h3 hne, hl, hb5, by omega, by
      rcases h4 with e | e
      · rw [e]; exact hne
      · rw [e]; intro e2; have := Option.some.inj e2; omega⟩
/-- A cluster: the rows from k0 on. -/
theorem VcM.rows {xs : List Value} {g cap k0 : Nat} (ho : OwnC 22 W w5.heap.size (.slice (some ⟨g, 0, none⟩) xs.length cap) xs) (hx : xs.length = made.length) (hr : ∀ (i : Nat) (l : List Nat), made[i]? = some l → ∃ (ra : Option Addr) (rb rc : Nat), xs[i]? = some (Value.slice ra n rc) ∧ FS W ra rb l ∧ l.length = n ∧ w5.heap.size ≤ rb ∧ rb < W.heap.size ∧ (Value.slice (some ⟨g, 0, none⟩) xs.length cap).ownBlock ≠ some rb) :
    RwI W (some ⟨g, k0, none⟩) (made.drop k0) n := fun hz => by
  obtain ⟨a, b, cap', e, _, _, _, _, h1, _, h2⟩ := ho.form
  have hne : xs ≠ [] := fun e => hz (by rw [List.eq_nil_of_length_eq_zero (show made.length = 0 by rw [← hx, e]; rfl)]; simp)
  obtain ⟨rfl, hlt⟩ := h1 hne
  injection e with e1
  injection e1 with e1
  injection e1 with e1
  subst e1
  refine ⟨g, k0, rfl, hlt, fun i l hi => ?_⟩
  rw [List.getElem?_drop] at hi
  obtain ⟨ra, rb, rc, g1, g2, g3, _⟩ := hr _ l hi
  exact ⟨ra, rc, h2 _ _ g1, g2.fls, g3⟩
end
theorem Box.put3I {w : World} {n : Nat} {a0 a1 a2 : Value} (h : Box w n [a0, a1, a2]) (v0 v1 v2 : Value) : Box (((w.setCell ⟨n, 0, none⟩ v0).setCell ⟨n, 1, none⟩ v1).setCell ⟨n, 2, none⟩ v2) n [v0, v1, v2] := ((h.set 0 v0).set 1 v1).set 2 v2
theorem Flb.put3I {w : World} {n m : Nat} {cs : List Nat} (h : Flb w n cs) (hne : n ≠ m) (v0 v1 v2 : Value) : Flb (((w.setCell ⟨m, 0, none⟩ v0).setCell ⟨m, 1, none⟩ v1).setCell ⟨m, 2, none⟩ v2) n cs := ((h.other hne 0 v0).other hne 1 v1).other hne 2 v2
theorem below3I {w W : World} {B k : Nat} (h : Below B w W) (hk : B ≤ k) (v0 v1 v2 : Value) : Below B w (((W.setCell ⟨k, 0, none⟩ v0).setCell ⟨k, 1, none⟩ v1).setCell ⟨k, 2, none⟩ v2) := ((h.setCell hk _).setCell hk _).setCell hk _
/-- What a vector's making is asked to be. -/
def VecSpec (w0 : World) (da ea : Option Addr) (ds es : List Nat) (dc ec n m : Nat) (OKX : Nat → Prop) : Prop :=
  ∀ (W : World) (x j : Nat) (ka : Option Addr) (kl kc : Nat) (cl : List (List Nat)), Below w0.heap.size w0 W → OKX x → x < 18446744073709551616 → j ≤ 9223372036854775807 → cl.length = kl → kl ≤ 1000 → RwI W ka cl n →
    Calls Try.prog 71 #[.agg #[.slice da n dc, .slice ea m ec], .float .f64 x, .int .i64 j, .slice ka kl kc] W fun e w' => ∃ sv, e = .returned (.tuple #[sv, .int .i64 ((vecI ds es x j cl).2.1 : Nat), .bool (vecI ds es x j cl).2.2]) ∧ ((vecI ds es x j cl).2.2 = true → ∃ a b c, sv = .slice a n c ∧ FS w' a b (vecI ds es x j cl).1 ∧ W.heap.size ≤ b ∧ b < w'.heap.size ∧ (vecI ds es x j cl).1.length = n) ∧ Below W.heap.size W w'
theorem spec_fin (w0 : World) (da ea : Option Addr) (ds es : List Nat) (dc ec n m : Nat) (hdl : ds.length = n) (hel : es.length = m) (hn0 : n ≠ 0) (hT : TrI w0 da ea ds es dc ec) : VecSpec w0 da ea ds es dc ec n m (fun x => askS ds es [x] = 0) :=
  fun W x j ka kl kc cl hb hx hl hj hk hk9 hC => (vector_ok W da ea ka ds es dc ec x j n m kl kc cl hdl hel hk hn0 (hT.below hb) hx hl hj hk9 hC).mono fun e w' ⟨a, b, c, h1, h2, h3, h4, _, h6, h7⟩ => ⟨_, h1, fun _ => ⟨a, b, c, rfl, h2, h3, h4, h6⟩, h7⟩
theorem vcsL_step {ds es ws c : List Nat} {j : Nat} (h : (vcsL ds es ws c j).ok = true) : vcsL ds es ws c (j + 1) =
    ⟨if (vecI ds es (nxtX ds es ws c j (vcsL ds es ws c j).x) j ((vcsL ds es ws c j).made.drop (c.getD j 0))).2.2 then (vcsL ds es ws c j).made ++ [(vecI ds es (nxtX ds es ws c j (vcsL ds es ws c j).x) j ((vcsL ds es ws c j).made.drop (c.getD j 0))).1] else (vcsL ds es ws c j).made,
     (vcsL ds es ws c j).steps + (vecI ds es (nxtX ds es ws c j (vcsL ds es ws c j).x) j ((vcsL ds es ws c j).made.drop (c.getD j 0))).2.1, nxtX ds es ws c j (vcsL ds es ws c j).x,
     (vecI ds es (nxtX ds es ws c j (vcsL ds es ws c j).x) j ((vcsL ds es ws c j).made.drop (c.getD j 0))).2.2⟩ := by
  rw [vcsL]
  dsimp only
  rw [h, if_pos rfl]
theorem vcsL_stop {ds es ws c : List Nat} {j : Nat} (h : (vcsL ds es ws c j).ok = false) : ∀ k, vcsL ds es ws c (j + k) = vcsL ds es ws c j
  | 0 => rfl
  | k + 1 => by
    rw [show j + (k + 1) = (j + k) + 1 from rfl, vcsL]
    dsimp only
    rw [vcsL_stop h k, h]
    rfl
theorem vcsL_steps (ds es ws c : List Nat) : ∀ j, (vcsL ds es ws c j).steps ≤ 3 * j
  | 0 => Nat.le_refl _
  | j + 1 => by
    have h := vcsL_steps ds es ws c j
    cases ho : (vcsL ds es ws c j).ok
    · have := vcsL_stop ho 1
      rw [this]
      omega
    · rw [vcsL_step ho]
      have h2 := vecL_steps (facI ds es (nxtX ds es ws c j (vcsL ds es ws c j).x)) ((vcsL ds es ws c j).made.drop (c.getD j 0)) (srtI j ds.length) 3
      show (vcsL ds es ws c j).steps + (vecI _ _ _ _ _).2.1 ≤ _
      unfold vecI
      omega
theorem vcsL_made (ds es ws c : List Nat) : ∀ j, (vcsL ds es ws c j).ok = true → (vcsL ds es ws c j).made.length = j
  | 0, _ => rfl
  | j + 1, h => by
    cases ho : (vcsL ds es ws c j).ok
    · have := vcsL_stop ho 1
      rw [this] at h
      rw [h] at ho
      cases ho
    · rw [vcsL_step ho] at h ⊢
      dsimp only at h ⊢
      rw [h, if_pos rfl, List.length_append, vcsL_made ds es ws c j ho]
      rfl
end Go.Proofs.Ytdljnhdhigbefaa
