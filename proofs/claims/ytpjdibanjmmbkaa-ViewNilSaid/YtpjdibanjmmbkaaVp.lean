/- A view's places in its store; floats set at them. -/
import Derived.Test.YtpjdibanjmmbkaaVm
namespace Go.Proofs.Ytpjdibanjmmbkaa
open Go Go.RowKit

/-- The k-th place of a view. -/
def Vw.pl (v : Vw) (k : Nat) : Nat := v.o + k / v.c * v.d + k % v.c * v.u
/-- All places, row by row. -/
def Vw.pls (v : Vw) : List Nat := (List.range (v.r * v.c)).map v.pl
theorem pls_length (v : Vw) : v.pls.length = v.r * v.c := by unfold Vw.pls; simp
theorem pls_get {v : Vw} {k : Nat} (hk : k < v.r * v.c) : v.pls[k]? = some (v.pl k) := by unfold Vw.pls; simp [hk]
theorem mem_rc {r c k : Nat} (h : k < r * c) : k / c < r ∧ k % c < c := by
  have hc : 0 < c := Nat.pos_of_ne_zero fun e => by rw [e, Nat.mul_zero] at h; exact absurd h (Nat.not_lt_zero _)
  exact ⟨Nat.div_lt_of_lt_mul (by rw [Nat.mul_comm]; exact h), Nat.mod_lt _ hc⟩
theorem inV_of {r c a b : Nat} (ha : a < r) (hb : b < c) : inV r c (a : Int) (b : Int) = true := by unfold inV; simp; omega
theorem get_pl {v : Vw} (ws : List Nat) {k : Nat} (hk : k < v.r * v.c) : v.get ws (k / v.c : Nat) (k % v.c : Nat) = ws.getD (v.pl k) 0 := by
  have h := mem_rc hk
  unfold Vw.get
  rw [if_pos (inV_of h.1 h.2)]
  simp only [Int.toNat_natCast]
  rfl
theorem put_pl {v : Vw} (ws : List Nat) (x : Nat) {k : Nat} (hk : k < v.r * v.c) : v.put ws (k / v.c : Nat) (k % v.c : Nat) x = ws.set (v.pl k) x := by
  have h := mem_rc hk
  unfold Vw.put
  rw [if_pos (inV_of h.1 h.2)]
  simp only [Int.toNat_natCast]
  rfl
theorem list_pls (v : Vw) (ws : List Nat) : v.list ws = v.pls.map fun p => ws.getD p 0 := by
  unfold Vw.list Vw.pls plcs
  rw [List.map_map, List.map_map]
  refine List.map_congr_left fun k hk => ?_
  exact get_pl ws (by simpa using hk)
theorem foldl_congr_mem {α β : Type} {f g : β → α → β} : ∀ (l : List α) (s : β), (∀ x ∈ l, ∀ s, f s x = g s x) → l.foldl f s = l.foldl g s
  | [], _, _ => rfl
  | y :: l, s, h => by
    rw [List.foldl_cons, List.foldl_cons, h y List.mem_cons_self]
    exact foldl_congr_mem l _ fun x hx => h x (List.mem_cons_of_mem _ hx)
theorem fill_pls (v : Vw) (x : Nat) (ws : List Nat) : v.fill x ws (plcs v.c (v.r * v.c)) = v.pls.foldl (fun s p => s.set p x) ws := by
  unfold Vw.fill Vw.pls plcs
  rw [List.foldl_map, List.foldl_map]
  exact foldl_congr_mem _ _ fun k hk s => put_pl s x (by simpa using hk)
theorem foldl_set_length (x : Nat) : ∀ (l ws : List Nat), (l.foldl (fun s p => s.set p x) ws).length = ws.length
  | [], _ => rfl
  | p :: l, ws => by rw [List.foldl_cons, foldl_set_length x l, List.length_set]
theorem foldl_set_getD (x : Nat) : ∀ (l ws : List Nat) (q : Nat), (l.foldl (fun s p => s.set p x) ws).getD q 0 = if q ∈ l ∧ q < ws.length then x else ws.getD q 0
  | [], ws, q => by simp
  | p :: l, ws, q => by
    rw [List.foldl_cons, foldl_set_getD x l, List.length_set]
    by_cases hq : q < ws.length
    · by_cases hl : q ∈ l
      · rw [if_pos ⟨hl, hq⟩, if_pos ⟨List.mem_cons_of_mem _ hl, hq⟩]
      · rw [if_neg (fun h => hl h.1)]
        by_cases he : q = p
        · subst he
          rw [if_pos ⟨List.mem_cons_self, hq⟩]
          simp [List.getD, hq]
        · rw [if_neg (fun h => by rcases List.mem_cons.1 h.1 with h1 | h1; exact he h1; exact hl h1)]
          simp [List.getD, List.getElem?_set, Ne.symm he]
    · rw [if_neg (fun h => hq h.2), if_neg (fun h => hq h.2)]
      simp only [List.getD, List.getElem?_set]
      have e : ws[q]? = none := by simp; omega
      split
      · rename_i h1; subst h1; simp [hq]
      · rfl
theorem eye_pls (st n : Nat) : (newV st n n).diag.pls = (List.range n).map fun k => k * (n + 1) := by
  have ed : (newV st n n).diag = ⟨some ⟨st, 0, none⟩, n, 1, 0, n + 1, 1⟩ := by unfold Vw.diag newV; simp
  rw [ed]
  unfold Vw.pls Vw.pl
  simp [Nat.mod_one]
theorem eyeL_length (st n : Nat) : (eyeL st n).length = n * n := by unfold eyeL; rw [Vw.fill_length]; simp
theorem eye_get {st n i j : Nat} (hi : i < n) (hj : j < n) : (newV st n n).get (eyeL st n) i j = if i = j then 4607182418800017408 else 0 := by
  unfold Vw.get
  rw [if_pos (show inV (newV st n n).r (newV st n n).c (i : Int) (j : Int) = true from inV_of hi hj)]
  simp only [Int.toNat_natCast]
  unfold eyeL
  rw [fill_pls, foldl_set_getD, eye_pls]
  rw [show (newV st n n).o + i * (newV st n n).d + j * (newV st n n).u = 0 + i * n + j * 1 from rfl]
  have hb : 0 + i * n + j * 1 < n * n := by
    have : (i + 1) * n ≤ n * n := Nat.mul_le_mul_right n hi
    rw [Nat.succ_mul] at this
    omega
  by_cases h : i = j
  · subst h
    rw [if_pos rfl, if_pos ⟨by simp only [List.mem_map, List.mem_range]; exact ⟨i, hi, by rw [Nat.mul_succ]; omega⟩, by rw [List.length_replicate]; exact hb⟩]
  · rw [if_neg h, if_neg]
    · simp only [List.getD]
      rw [List.getElem?_replicate]
      split <;> rfl
    · rintro ⟨hm, _⟩
      simp only [List.mem_map, List.mem_range] at hm
      obtain ⟨k, hk, e⟩ := hm
      have h1 : (k * (n + 1)) % n = (i * n + j) % n := by rw [e]; congr 1; omega
      have h2 : (k * (n + 1)) / n = (i * n + j) / n := by rw [e]; congr 1; omega
      have hn : 0 < n := by omega
      rw [Nat.mul_succ, Nat.mul_comm k n, Nat.mul_comm i n, Nat.mul_add_mod, Nat.mul_add_mod, Nat.mod_eq_of_lt hk, Nat.mod_eq_of_lt hj] at h1
      rw [Nat.mul_succ, Nat.mul_comm k n, Nat.mul_comm i n, Nat.mul_add_div hn, Nat.mul_add_div hn, Nat.div_eq_of_lt hk, Nat.div_eq_of_lt hj] at h2
      omega
end Go.Proofs.Ytpjdibanjmmbkaa
