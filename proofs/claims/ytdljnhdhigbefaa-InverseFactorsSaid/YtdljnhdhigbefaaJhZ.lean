/- Layer 14, the document's: the floor of a size; what a drawn region makes; lists put from noughts. No condition but on lengths. -/
import Derived.Test.YtdljnhdhigbefaaZz29
namespace Go.Proofs.Ytdljnhdhigbefaa
open Go Go.RowKit
set_option maxRecDepth 1000000
set_option linter.unusedSimpArgs false
set_option linter.unusedVariables false

theorem tw52I : timesW 4607182418800017408 (-52) = 4372995238176751616 := by kernel_rfl
theorem tw1000I : timesW 4607182418800017408 (-1000) = 103582791429521408 := by kernel_rfl
set_option maxHeartbeats 2000000 in
theorem RFloor14 (w : World) (s : Nat) (hs : isnan s = false) (hl : s < 9223372036854775808) :
    Calls Try.prog 77 #[.float .f64 s] w fun e w' => e = .returned (.float .f64 (mxW (fmul s 4372995238176751616) 103582791429521408)) ∧ Below w.heap.size w w' := by
  have hn := (lowI_max hs hl).1
  have H1 := Lib.hid (fun W => tw52I ▸ ldexpOne (-52) (by decide) (by decide) W)
  have H2 := Lib.hid (fun W => tw1000I ▸ ldexpOne (-1000) (by decide) (by decide) W)
  obtain ⟨f, hf⟩ : ∃ f, f = fmul s 4372995238176751616 := ⟨_, rfl⟩
  rw [← hf] at hn ⊢
  obtain ⟨c, hc⟩ : ∃ c, c = flt f 103582791429521408 := ⟨_, rfl⟩
  have HR := Lib.hid (show mxW f 103582791429521408 = if c then 103582791429521408 else f by rw [hc]; rfl)
  have hc2 : flt f 103582791429521408 = c := hc.symm
  have HF := Lib.hid hf.symm
  have HNN := Lib.hid hn
  obtain ⟨R, hR⟩ : ∃ R, R = mxW f 103582791429521408 := ⟨_, rfl⟩
  rw [← hR] at HR ⊢
  clear hn hf hc hR hs hl
  go_enter Try.func77, Try.ntmps77
  go_wp2_with fail
  refine (H1.out _).mono ?_
  rintro e w1 ⟨rfl, hb1⟩
  have BW := Lib.hid hb1
  clear hb1
  dsimp only
  go_wp2_with (first | (refine wpList_flt rfl rfl rfl rfl rfl ?_; intro K hK sq nq; go_frame; rw [HF.out, raw_of_not HNN.out]; refine hK _ _ ?_; clear hK K))
  have hbd := below_drewN nq (Below.refl w1.heap.size w1)
  replace BW := Lib.hid (below_step BW.out BW.out.size hbd)
  generalize w1.drewN nq = w2 at *
  clear hbd
  refine (H2.out _).mono ?_
  rintro e w3 ⟨rfl, hb3⟩
  replace BW := Lib.hid (below_step BW.out BW.out.size hb3)
  clear hb3
  dsimp only
  cases c
  · obtain rfl : R = f := HR.out
    go_wp2_with fail
    go_ret
    exact ⟨rfl, BW.out⟩
  · obtain rfl : R = 103582791429521408 := HR.out
    go_wp2_with fail
    refine (H2.out _).mono ?_
    rintro e w4 ⟨rfl, hb4⟩
    have hf := below_step BW.out BW.out.size hb4
    dsimp only
    go_wp2_with fail
    go_ret
    exact ⟨rfl, hf⟩
def kdR (i : Nat) : Nat := if i = 1 ∨ i = 3 ∨ i = 5 then 1 else if i = 9 then 2 else if i = 13 then 3 else 4
theorem fam_doneR {w D W : World} {n m : Nat} {s : Nat → Value} {K : Nat → Nat} (hb : Below w.heap.size w D) (h : FamI D W (fun i => FkP w.heap.size n m [] (kdR i)) 0 [1, 3, 5, 9, 13, 15] [] s K) :
    s 1 = .slice (some ⟨K 1, 0, none⟩) n n ∧ s 3 = .slice (some ⟨K 3, 0, none⟩) n n ∧ s 5 = .slice (some ⟨K 5, 0, none⟩) n n ∧ s 9 = .slice (some ⟨K 9, 0, none⟩) m m ∧ s 13 = .slice (some ⟨K 13, 0, none⟩) m m ∧ s 15 = .pointer (some ⟨K 15, 0, none⟩) ∧
      FaM w (((((W.setCell ⟨K 15, 0, none⟩ (.slice (some ⟨K 1, 0, none⟩) n n)).setCell ⟨K 15, 1, none⟩ (.slice (some ⟨K 3, 0, none⟩) n n)).setCell ⟨K 15, 2, none⟩ (.slice (some ⟨K 5, 0, none⟩) n n)).setCell ⟨K 15, 3, none⟩ (.slice (some ⟨K 9, 0, none⟩) m m)).setCell ⟨K 15, 4, none⟩ (.slice (some ⟨K 13, 0, none⟩) m m)) (K 15) (some ⟨K 1, 0, none⟩) n (K 1) (K 3) (K 5) (K 9) (K 13) n m ⟨List.replicate n 0, List.replicate n 0, List.replicate n 0, List.replicate m 0, List.replicate m false⟩ := by
  obtain ⟨e1, f1⟩ : FkP w.heap.size n m [] 1 W (s 1) (K 1) := h.fact 1 (by decide) (by decide)
  obtain ⟨e3, f3⟩ : FkP w.heap.size n m [] 1 W (s 3) (K 3) := h.fact 3 (by decide) (by decide)
  obtain ⟨e5, f5⟩ : FkP w.heap.size n m [] 1 W (s 5) (K 5) := h.fact 5 (by decide) (by decide)
  obtain ⟨e9, f9⟩ : FkP w.heap.size n m [] 2 W (s 9) (K 9) := h.fact 9 (by decide) (by decide)
  obtain ⟨e13, f13⟩ : FkP w.heap.size n m [] 3 W (s 13) (K 13) := h.fact 13 (by decide) (by decide)
  obtain ⟨e15, f15⟩ : FkP w.heap.size n m [] 4 W (s 15) (K 15) := h.fact 15 (by decide) (by decide)
  have ne := fun i (hi : i ∈ [1, 3, 5, 9, 13, 15]) j (hj : j ∈ [1, 3, 5, 9, 13, 15]) (hij : i ≠ j) => h.ne i hi j hj (by simp) (by simp) hij
  have lo := fun i (hi : i ∈ [1, 3, 5, 9, 13, 15]) => (h.lo i hi (by simp)).1 (by simp only [List.mem_cons, List.not_mem_nil, or_false] at hi; omega)
  have hs := hb.size
  have g1 := lo 1 (by decide)
  have g3 := lo 3 (by decide)
  have g5 := lo 5 (by decide)
  have g9 := lo 9 (by decide)
  have g13 := lo 13 (by decide)
  have g15 := lo 15 (by decide)
  refine ⟨e1, e3, e5, e9, e13, e15, f15.put5s _ _ _ _ _, .inr ⟨rfl, f1.put5n (ne 1 (by decide) 15 (by decide) (by decide)) _ _ _ _ _⟩, f3.put5n (ne 3 (by decide) 15 (by decide) (by decide)) _ _ _ _ _, f5.put5n (ne 5 (by decide) 15 (by decide) (by decide)) _ _ _ _ _, f9.put5n (ne 9 (by decide) 15 (by decide) (by decide)) _ _ _ _ _, f13.put5n (ne 13 (by decide) 15 (by decide) (by decide)) _ _ _ _ _, ⟨by simp, by simp, by simp, by simp, by simp⟩, ?_, ⟨by omega, fun _ => by omega, by omega, by omega, by omega, by omega⟩, below5 (below_step hb hb.size h.below) (by omega) _ _ _ _ _, ⟨rep_words _, rep_words _, rep_words _, rep_words _⟩⟩
  simp only [List.nodup_cons, List.mem_cons, List.not_mem_nil, or_false, not_or, List.nodup_nil, and_true, not_false_eq_true]
  exact ⟨⟨ne 15 (by decide) 1 (by decide) (by decide), ne 15 (by decide) 3 (by decide) (by decide), ne 15 (by decide) 5 (by decide) (by decide), ne 15 (by decide) 9 (by decide) (by decide), ne 15 (by decide) 13 (by decide) (by decide)⟩,
    ⟨ne 1 (by decide) 3 (by decide) (by decide), ne 1 (by decide) 5 (by decide) (by decide), ne 1 (by decide) 9 (by decide) (by decide), ne 1 (by decide) 13 (by decide) (by decide)⟩,
    ⟨ne 3 (by decide) 5 (by decide) (by decide), ne 3 (by decide) 9 (by decide) (by decide), ne 3 (by decide) 13 (by decide) (by decide)⟩,
    ⟨ne 5 (by decide) 9 (by decide) (by decide), ne 5 (by decide) 13 (by decide) (by decide)⟩, ne 9 (by decide) 13 (by decide) (by decide)⟩
/-- A list put from noughts, entry by entry. -/
def putZ (f : Nat → Nat) (z : List Nat) : Nat → List Nat
  | 0 => z
  | i + 1 => (putZ f z i).set i (f i)
theorem putZ_len (f : Nat → Nat) (z : List Nat) : ∀ i, (putZ f z i).length = z.length
  | 0 => rfl
  | i + 1 => by rw [putZ, List.length_set, putZ_len f z i]
theorem putZ_get (f : Nat → Nat) (z : List Nat) : ∀ i t, t < z.length → (putZ f z i)[t]? = if t < i then some (f t) else z[t]?
  | 0, t, _ => by rw [putZ, if_neg (Nat.not_lt_zero _)]
  | i + 1, t, h => by
    rw [putZ]
    by_cases e : t = i
    · subst e
      rw [List.getElem?_set_self (by rw [putZ_len]; exact h), if_pos (by omega)]
    · rw [List.getElem?_set_ne (fun e2 => e e2.symm), putZ_get f z i t h]
      by_cases h2 : t < i
      · rw [if_pos h2, if_pos (by omega)]
      · rw [if_neg h2, if_neg (by omega)]
theorem stL_get (f : Nat → Nat → Nat) (y : List Nat) : ∀ i t, t < y.length → (stL f y i)[t]? = if t < i then some (f t (y.getD t 0)) else y[t]?
  | 0, t, _ => by rw [stL, if_neg (Nat.not_lt_zero _)]
  | i + 1, t, h => by
    rw [stL_succ]
    by_cases e : t = i
    · subst e
      rw [List.getElem?_set_self (by rw [stL_len]; exact h), if_pos (by omega)]
    · rw [List.getElem?_set_ne (fun e2 => e e2.symm), stL_get f y i t h]
      by_cases h2 : t < i
      · rw [if_pos h2, if_pos (by omega)]
      · rw [if_neg h2, if_neg (by omega)]
theorem putZ_stL (f : Nat → Nat → Nat) (y : List Nat) : putZ (fun i => f i (y.getD i 0)) (List.replicate y.length 0) y.length = stL f y y.length := List.ext_getElem? fun t => by
  by_cases h : t < y.length
  · rw [putZ_get _ _ _ _ (by simpa using h), stL_get _ _ _ _ h, if_pos h, if_pos h]
  · rw [List.getElem?_eq_none (by rw [putZ_len]; simpa using Nat.le_of_not_lt h), List.getElem?_eq_none (by rw [stL_len]; omega)]
theorem putZ_app (es : List Nat) (n : Nat) (h : es.length ≤ n) : putZ (fun i => es.getD i 0) (List.replicate n 0) es.length = es ++ List.replicate (n - es.length) 0 := List.ext_getElem? fun t => by
  by_cases ht : t < n
  · rw [putZ_get _ _ _ _ (by simpa using ht)]
    by_cases h2 : t < es.length
    · rw [if_pos h2, List.getElem?_append_left h2, List.getD_eq_getElem?_getD, List.getElem?_eq_getElem h2]
      rfl
    · rw [if_neg h2, List.getElem?_append_right (by omega), List.getElem?_replicate, List.getElem?_replicate, if_pos ht, if_pos (by omega)]
  · rw [List.getElem?_eq_none (by rw [putZ_len]; simpa using Nat.le_of_not_lt ht), List.getElem?_eq_none (by simp; omega)]
end Go.Proofs.Ytdljnhdhigbefaa
