/- Two views are the same just if their matrices are. -/
import Derived.Test.YtpjdibanjmmbkaaVp
import Derived.Test.YtpjdibanjmmbkaaRc
namespace Go.Proofs.Ytpjdibanjmmbkaa
open Go Go.RowKit

theorem sameN_all (xs ys : List Nat) : ∀ n, sameN xs ys n = (List.range n).all fun k => sameF (xs.getD k 0) (ys.getD k 0)
  | 0 => rfl
  | n + 1 => by rw [sameN, sameN_all xs ys n, List.range_succ, List.all_append]; simp
theorem list_getD (v : Vw) (ws : List Nat) {k : Nat} (hk : k < v.r * v.c) : (v.list ws).getD k 0 = v.get ws (k / v.c : Nat) (k % v.c : Nat) := by
  unfold Vw.list
  rw [List.getD_eq_getElem?_getD, List.getElem?_map, plcs_get hk]
  rfl
theorem all_congr {α : Type} {f g : α → Bool} : ∀ {l : List α}, (∀ x ∈ l, f x = g x) → l.all f = l.all g
  | [], _ => rfl
  | x :: l, h => by rw [List.all_cons, List.all_cons, h x List.mem_cons_self, all_congr fun y hy => h y (List.mem_cons_of_mem _ hy)]
theorem same_law (a b : Vw) (wa wb : List Nat) (hb : b.p.isSome = true) : sameV a b wa wb = (a.p.isSome && sameM a.r a.c (a.list wa) b.r b.c (b.list wb)) := by
  unfold sameV sameM
  cases hp : a.p with
  | none => rw [show b.p.isNone = false by rw [← Option.not_isSome, hb]; rfl]; rfl
  | some q =>
    rw [show b.p.isNone = false by rw [← Option.not_isSome, hb]; rfl]
    simp only [Option.isNone_some, Option.isSome_some, Bool.true_and, beq_self_eq_true]
    by_cases hr : a.r = b.r
    · by_cases hc : a.c = b.c
      · rw [decide_eq_true hr, decide_eq_true hc, decide_eq_true (show (a.r : Int) = b.r by omega), decide_eq_true (show (a.c : Int) = b.c by omega)]
        simp only [Bool.true_and]
        unfold sameFs
        rw [list_length, list_length, hr, hc, decide_eq_true rfl, Bool.true_and, sameN_all]
        unfold sameL plcs
        rw [List.all_map]
        refine all_congr fun k hk => ?_
        have hk' : k < b.r * b.c := by simpa using hk
        rw [list_getD b wb hk', list_getD a wa (by rw [hr, hc]; exact hk'), hc]
        rfl
      · rw [decide_eq_false hc, decide_eq_false (show ¬ (a.c : Int) = b.c by omega)]; simp
    · rw [decide_eq_false hr, decide_eq_false (show ¬ (a.r : Int) = b.r by omega)]; simp
theorem sameF_comm (x y : Nat) : sameF x y = sameF y x := by
  unfold sameF
  rw [Bool.and_comm]
  by_cases h : x = y
  · subst h; rfl
  · rw [decide_eq_false h, decide_eq_false (fun e => h e.symm)]
theorem sameV_comm (a b : Vw) (wa wb : List Nat) : sameV a b wa wb = sameV b a wb wa := by
  unfold sameV
  by_cases hr : a.r = b.r
  · by_cases hc : a.c = b.c
    · rw [decide_eq_true hr, decide_eq_true hc, decide_eq_true hr.symm, decide_eq_true hc.symm, hr, hc]
      congr 1
      · congr 1
        congr 1
        cases a.p <;> cases b.p <;> rfl
      · unfold sameL
        exact all_congr fun x _ => sameF_comm _ _
    · rw [decide_eq_false hc, show decide (b.c = a.c) = false from decide_eq_false fun e => hc e.symm]; simp
  · rw [decide_eq_false hr, show decide (b.r = a.r) = false from decide_eq_false fun e => hr e.symm]; simp
theorem stepV_ok {v : Vw} {w : World} {sb : Nat} {ws : List Nat} (h : v.Ok w sb ws) (s : Stp) : (stepV v s).Ok w sb ws := by
  unfold stepV
  split
  · exact T_ok h
  · split
    · exact row_ok h _
    · split
      · exact col_ok h _
      · split
        · exact part_ok h _ _ _ _
        · split
          · exact diag_ok h
          · exact h
theorem cutV_ok {w : World} {sb : Nat} {ws : List Nat} : ∀ (l : List Stp) {v : Vw}, v.Ok w sb ws → (cutV v l).Ok w sb ws
  | [], _, h => h
  | s :: l, _, h => cutV_ok l (stepV_ok h s)
theorem ok_pls {v : Vw} {w : World} {sb : Nat} {ws : List Nat} (h : v.Ok w sb ws) : ∀ p ∈ v.pls, p < ws.length := by
  intro p hp
  unfold Vw.pls at hp
  simp only [List.mem_map, List.mem_range] at hp
  obtain ⟨k, hk, rfl⟩ := hp
  rcases h with rfl | ⟨_, hin, _, _⟩
  · exact absurd hk (Nat.not_lt_zero _)
  · have := mem_rc hk
    exact hin _ _ this.1 this.2
theorem get_mem_word {ws : List Nat} (h : Words ws) (k : Nat) : ws.getD k 0 < 18446744073709551616 := h.at k
theorem list_words {v : Vw} {ws : List Nat} (h : Words ws) : Words (v.list ws) := by
  intro x hx
  rw [list_pls] at hx
  simp only [List.mem_map] at hx
  obtain ⟨p, _, rfl⟩ := hx
  exact h.at p
end Go.Proofs.Ytpjdibanjmmbkaa
