/- The document's views: a view takes another's floats; places in common. -/
import Derived.Test.YtpjdibanjmmbkaaRs
import Derived.Test.YtpjdibanjmmbkaaVsL
import Derived.Test.YtpjdibanjmmbkaaNq6
namespace Go.Proofs.Ytpjdibanjmmbkaa
open Go Go.RowKit
set_option maxRecDepth 100000

/-! ### Plain -/
/-- The store when k floats are taken. -/
def tkN (v o : Vw) (wo ws : List Nat) (k : Nat) : List Nat := (List.range k).foldl (fun s i => s.set (v.pl i) (wo.getD (o.pl i) 0)) ws
theorem tkN_succ (v o : Vw) (wo ws : List Nat) (k : Nat) : tkN v o wo ws (k + 1) = (tkN v o wo ws k).set (v.pl k) (wo.getD (o.pl k) 0) := by
  unfold tkN
  rw [List.range_succ, List.foldl_append]
  rfl
theorem tkN_length (v o : Vw) (wo ws : List Nat) : ∀ k, (tkN v o wo ws k).length = ws.length
  | 0 => rfl
  | k + 1 => by rw [tkN_succ, List.length_set, tkN_length v o wo ws k]
theorem takeE_zero {v o : Vw} (h : takeE v o = 0) : v.p.isNone = false ∧ o.p.isNone = false ∧ v.r = o.r ∧ v.c = o.c := by
  unfold takeE at h
  cases h1 : v.p.isNone
  · cases h2 : o.p.isNone
    · rw [h1, h2] at h
      by_cases h3 : v.r ≠ o.r ∨ v.c ≠ o.c
      · rw [if_neg (by decide), if_pos h3] at h; cases h
      · exact ⟨rfl, rfl, by omega, by omega⟩
    · rw [h1, h2] at h; cases h
  · rw [h1] at h; cases h
theorem take_tkN {v o : Vw} (h : takeE v o = 0) (wo ws : List Nat) : v.take o wo ws = tkN v o wo ws (v.r * v.c) := by
  obtain ⟨_, _, hr, hc⟩ := takeE_zero h
  unfold Vw.take
  rw [if_pos h]
  unfold Vw.takeL tkN plcs
  rw [List.foldl_map]
  refine foldl_congr_mem _ _ fun k hk s => ?_
  have hk' : k < v.r * v.c := by simpa using hk
  have hk2 : k < o.r * o.c := by rw [← hr, ← hc]; exact hk'
  show v.put s (k / v.c : Nat) (k % v.c : Nat) (o.get wo (k / v.c : Nat) (k % v.c : Nat)) = _
  rw [put_pl s _ hk', hc, get_pl wo hk2]

/-- Some place lies in both. -/
def shL (ps qs : List Nat) : Bool := ps.any fun p => decide (p ∈ qs)
theorem shL_comm (ps qs : List Nat) : shL ps qs = shL qs ps := by
  unfold shL
  rw [Bool.eq_iff_iff, List.any_eq_true, List.any_eq_true]
  simp only [decide_eq_true_eq]
  exact ⟨fun ⟨p, h1, h2⟩ => ⟨p, h2, h1⟩, fun ⟨p, h1, h2⟩ => ⟨p, h2, h1⟩⟩
theorem shL_no {ps qs : List Nat} (h : ∀ p ∈ ps, p ∉ qs) : shL ps qs = false := by
  unfold shL
  rw [List.any_eq_false]
  intro p hp
  simpa using h p hp
theorem shL_yes {ps qs : List Nat} {p : Nat} (h1 : p ∈ ps) (h2 : p ∈ qs) : shL ps qs = true := by
  unfold shL
  rw [List.any_eq_true]
  exact ⟨p, h1, by simpa using h2⟩
theorem places_pls (v : Vw) : v.places (plcs v.c (v.r * v.c)) = v.pls := by
  unfold Vw.places Vw.pls plcs
  rw [List.map_map]
  rfl
theorem mem_take_succ {α : Type} {l : List α} {k : Nat} {x : α} (h : l[k]? = some x) {y : α} : y ∈ l.take (k + 1) ↔ y ∈ l.take k ∨ y = x := by
  rw [take_get h]; simp

set_option maxHeartbeats 4000000 in
theorem Shares07_any (w : World) (aa ba : Option Addr) (ps qs : List Nat) (ac bc : Nat) (ea fa : Option Addr) (en ec fn fc : Nat) (r c r' c' : Int) (is is' : Bool) (hA : Itc w aa ps) (hB : Itc w ba qs) (hl : ps.length ≤ 262144) (hl' : qs.length ≤ 262144) :
    Calls Try.prog 55 #[.agg #[.slice ea en ec, .int .i64 r, .int .i64 c, .slice aa ps.length ac, .bool is], .agg #[.slice fa fn fc, .int .i64 r', .int .i64 c', .slice ba qs.length bc, .bool is']] w fun e w' => e = .returned (.bool (shL ps qs)) ∧ Below w.heap.size w w' := by
  have x0 : Box ((w.alloc (.cells #[.slice ea en ec, .int .i64 r, .int .i64 c, .slice aa ps.length ac, .bool is] 48)).alloc (.cells #[.slice fa fn fc, .int .i64 r', .int .i64 c', .slice ba qs.length bc, .bool is'] 48)) w.heap.size [.slice ea en ec, .int .i64 r, .int .i64 c, .slice aa ps.length ac, .bool is] := (Box.newA w [_, _, _, _, _] _ rfl).alloc _
  have x1 : Box ((w.alloc (.cells #[.slice ea en ec, .int .i64 r, .int .i64 c, .slice aa ps.length ac, .bool is] 48)).alloc (.cells #[.slice fa fn fc, .int .i64 r', .int .i64 c', .slice ba qs.length bc, .bool is'] 48)) (w.heap.size + 1) [.slice fa fn fc, .int .i64 r', .int .i64 c', .slice ba qs.length bc, .bool is'] := Box.newA _ [_, _, _, _, _] _ (by simp)
  have hB0 : Below w.heap.size w ((w.alloc (.cells #[.slice ea en ec, .int .i64 r, .int .i64 c, .slice aa ps.length ac, .bool is] 48)).alloc (.cells #[.slice fa fn fc, .int .i64 r', .int .i64 c', .slice ba qs.length bc, .bool is'] 48)) := ((Below.refl _ _).alloc (Nat.le_refl _) _).alloc (by simp) _
  have HLp := Lib.hid hl
  have HLq := Lib.hid hl'
  clear hl hl'
  go_enter Try.func55, Try.ntmps55
  go_wp2
  generalize ((w.alloc (.cells #[.slice ea en ec, .int .i64 r, .int .i64 c, .slice aa ps.length ac, .bool is] 48)).alloc (.cells #[.slice fa fn fc, .int .i64 r', .int .i64 c', .slice ba qs.length bc, .bool is'] 48)) = W0 at *
  go_loopw [5] (fun i wr => ∃ k : Nat, k ≤ ps.length ∧ i = .int .i64 k ∧ (∀ p ∈ ps.take k, p ∉ qs) ∧ Below W0.heap.size W0 wr) (fun i _ => ps.length - (intOf i).toNat)
  case atStart => exact ⟨0, Nat.zero_le _, rfl, (fun p hp => by rw [List.take_zero] at hp; cases hp), Below.refl _ _⟩
  case round =>
    obtain ⟨k, hk, rfl, hno, hb⟩ := hrel
    obtain ⟨y1, y2, y3⟩ := (x0.below hb).facts
    by_cases hlt : k < ps.length
    · have hpe : ps[k]? = some ps[k] := by simp [hlt]
      have np : ps ≠ [] := by intro e; rw [e] at hlt; exact absurd hlt (Nat.not_lt_zero _)
      obtain ⟨ca, oa, rfl, hca, hcc⟩ := (hA.below (below_step hB0 hB0.size hb)) np
      have c1 := hcc k _ hpe
      have hmem : ps[k] ∈ ps := List.getElem_mem hlt
      have HT := Lib.hid (fun y => mem_take_succ (y := y) hpe)
      have HS := Lib.hid (fun h => shL_yes (qs := qs) hmem h)
      have HNO := Lib.hid hno
      generalize ps[k] = p at *
      clear hcc hpe np hno hmem
      go_wp2
      obtain ⟨wo, rfl⟩ : ∃ wo : World, wo = wr := ⟨_, rfl⟩
      go_loopw [6] (fun j wr => ∃ m : Nat, m ≤ qs.length ∧ j = .int .i64 m ∧ p ∉ qs.take m ∧ Below W0.heap.size W0 wr ∧ Below wo.heap.size wo wr) (fun j _ => qs.length - (intOf j).toNat)
      case atStart => exact ⟨0, Nat.zero_le _, rfl, (fun hp => by rw [List.take_zero] at hp; cases hp), hb, Below.refl _ _⟩
      case round =>
        obtain ⟨m, hm, rfl, hno, hb', hbo⟩ := hrel
        obtain ⟨z1, z2, z3⟩ := (x1.below hb').facts
        obtain ⟨y4, y5, y6⟩ := (x0.below hb').facts
        by_cases hlt2 : m < qs.length
        · have hqe : qs[m]? = some qs[m] := by simp [hlt2]
          have nq : qs ≠ [] := by intro e; rw [e] at hlt2; exact absurd hlt2 (Nat.not_lt_zero _)
          obtain ⟨cb, ob, rfl, hcb, hcd⟩ := (hB.below (below_step hB0 hB0.size hb')) nq
          have c2 := hcd m _ hqe
          have c3 : wr.cell? ⟨ca, oa + k, none⟩ = some (.int .i64 (p : Int)) := by rw [(below_cells hbo).1 _ _ hca]; exact c1
          have hmem : qs[m] ∈ qs := List.getElem_mem hlt2
          have HQ := Lib.hid (fun y => mem_take_succ (y := y) hqe)
          have HNQ := Lib.hid hno
          generalize qs[m] = q at *
          clear hcd hqe nq hno
          go_wp2
          refine wp_region_items 10 [(true, 0), (true, 1), (true, 2), (true, 3), (true, 4), (true, 5), (true, 6), (true, 7), (true, 8), (true, 9)] (fun W => (∀ i, W.cell? ⟨w.heap.size, i, none⟩ = ([.slice ea en ec, .int .i64 r, .int .i64 c, .slice (some ⟨ca, oa, none⟩) ps.length ac, .bool is] : List Value)[i]?) ∧ (∀ i, W.cell? ⟨w.heap.size + 1, i, none⟩ = ([.slice fa fn fc, .int .i64 r', .int .i64 c', .slice (some ⟨cb, ob, none⟩) qs.length bc, .bool is'] : List Value)[i]?) ∧ W.cell? ⟨ca, oa + k, none⟩ = some (.int .i64 (p : Int)) ∧ W.cell? ⟨cb, ob + m, none⟩ = some (.int .i64 (q : Int))) (by kernel_rfl) (by kernel_rfl) ⟨y5, z2, c3, c2⟩ ?_
          iterate 10 (refine iW_take (v := ?_) rfl rfl ?_ ?_; rotate_left; (next => (intro w' hSw; (try dsimp only at hSw); obtain ⟨hS1, hS2, hS3, hS4⟩ := hSw; go_simp; (try with_reducible rfl))); (simp only [Act.put, List.setIfInBounds_toArray, List.set_cons_zero, List.set_cons_succ]))
          refine iW_nil ?_
          (try simp only [List.drop])
          go_wp2
          refine NoPanic.normal ?_
          have hbd := below_drewN 1 hb'
          have hmb : m + 1 ≤ 262144 := by have := HLq.out; omega
          by_cases hpq : p = q
          · have t1 : ((p : Int) == (q : Int)) = true := by simp; omega
            go_wp2
            go_ret
            exact ⟨by rw [HS.out (hpq ▸ hmem)]; rfl, below_step hB0 hB0.size hbd⟩
          · have t1 : ((p : Int) == (q : Int)) = false := by simp; omega
            go_wp2
            go_roundw
            case rel => exact ⟨m + 1, by omega, by go_num, (fun h => by rcases (HQ.out p).1 h with h1 | h1; exact HNQ.out h1; exact hpq h1), hbd, below_drewN 1 hbo⟩
            case measure => simp [intOf]; omega
        · obtain rfl : m = qs.length := by omega
          have hkb : k + 1 ≤ 262144 := by have := HLp.out; omega
          rw [List.take_of_length_le (Nat.le_refl _)] at hno
          have HNQ := Lib.hid hno
          clear hno
          go_wp2
          go_roundw
          case rel => exact ⟨k + 1, by omega, by go_num, (fun y hy => by rcases (HT.out y).1 hy with h1 | h1; exact HNO.out y h1; rw [h1]; exact HNQ.out), hb'⟩
          case measure => simp [intOf]; omega
    · obtain rfl : k = ps.length := by omega
      rw [List.take_of_length_le (Nat.le_refl _)] at hno
      have HS := Lib.hid (shL_no hno)
      clear hno
      go_wp2
      go_ret
      exact ⟨by rw [HS.out]; rfl, below_step hB0 hB0.size hb⟩

theorem ref_shares (w : World) (v o : Vw) (da db : Option Addr) (n dc n' dc' : Nat) (x y : Value) {P Q : Nat → Prop} (h : RefV P w da n dc v x) (ho : RefV Q w db n' dc' o y) (hr : v.r ≤ 512) (hc : v.c ≤ 512) (hr' : o.r ≤ 512) (hc' : o.c ≤ 512) :
    Calls Try.prog 55 #[x, y] w fun e w' => e = .returned (.bool (shL v.pls o.pls)) ∧ Below w.heap.size w w' := by
  obtain ⟨ea, en, ec, aa, ac, rfl, _, _, h4, _⟩ := h
  obtain ⟨fa, fn, fc, ba, bc, rfl, _, _, k4, _⟩ := ho
  have hl : v.pls.length ≤ 262144 := by rw [pls_length]; exact Nat.mul_le_mul hr hc
  have hl' : o.pls.length ≤ 262144 := by rw [pls_length]; exact Nat.mul_le_mul hr' hc'
  have hk := Shares07_any w aa ba v.pls o.pls ac bc ea fa en ec fn fc v.r v.c o.r o.c v.p.isSome o.p.isSome h4 k4 hl hl'
  rw [pls_length, pls_length] at hk
  exact hk
end Go.Proofs.Ytpjdibanjmmbkaa
