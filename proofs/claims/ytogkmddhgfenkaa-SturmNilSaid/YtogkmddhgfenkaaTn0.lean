/- SturmNil: closed facts. -/
import Derived.Test.YtogkmddhgfenkaaAl
import Derived.Test.YtogkmddhgfenkaaNq3
namespace Go.Proofs.Ytogkmddhgfenkaa
open Go Go.RowKit Go.Shelf
set_option maxRecDepth 100000

theorem run_mk13 (n : Nat) (h : n ≤ 262144) (w : World) : (Instr.makeSlice 24 (.int .i64 (n : Int)) (.int .i64 (n : Int))).run Try.prog w = .ok (.slice (some ⟨w.heap.size, 0, none⟩) n n) (w.alloc (.cells (List.replicate n (Value.float .f64 0)).toArray 35)) := by
  have := run_New n 1 (by omega) w
  simpa using this
theorem fls_rep (w : World) (n : Nat) : Fls (w.alloc (.cells (List.replicate n (Value.float .f64 0)).toArray 35)) (some ⟨w.heap.size, 0, none⟩) (List.replicate n 0) :=
  fls_box (xs := List.replicate n 0) (by rw [List.map_replicate]; exact Box.newA w _ _ rfl) (by rw [List.all_eq_true]; intro x hx; rw [(List.mem_replicate.1 hx).2]; kernel_rfl)
theorem Fls.rep {w : World} {da : Option Addr} {n m : Nat} (h : Fls w da (List.replicate n 0)) (hm : m ≤ n) : Fls w da (List.replicate m 0) := fun hz => by
  have hn : List.replicate n 0 ≠ [] := fun h0 => by
    have h1 := congrArg List.length h0
    rw [List.length_replicate] at h1
    apply hz
    rw [show m = 0 from by have : n = 0 := h1; omega]; rfl
  obtain ⟨b, o, e, hlt, hc⟩ := h hn
  refine ⟨b, o, e, hlt, fun i v hi => hc i v ?_⟩
  have h2 : i < m := by have := (List.getElem?_eq_some_iff.1 hi).1; rwa [List.length_replicate] at this
  rw [List.getElem?_replicate, if_pos (by omega)]
  rw [List.getElem?_replicate, if_pos h2] at hi
  exact hi
theorem tn1 : askS (List.replicate 513 0) (List.replicate 512 0) [0] = 2 := by kernel_rfl
theorem tn2 : askS (List.replicate 512 0) (List.replicate 511 0) [4607182418800017408] = 0 := by kernel_rfl
theorem tn3 : cntN (List.replicate 512 0) (List.replicate 511 0) 4607182418800017408 = 512 := by kernel_rfl
theorem tn4 : bndE [9218868437227405311, 9218868437227405311] [9218868437227405311] = 10 := by kernel_rfl
theorem tn5 : allE [9218868437227405311, 9218868437227405311] [9218868437227405311] = 10 := by kernel_rfl
theorem tn6 : cntN [0, 0] [4607182418800017408] 0 = 1 := by kernel_rfl
theorem tn6e : askS [0, 0] [4607182418800017408] [0] = 0 := by kernel_rfl
theorem tn7 : cntN [9322451228656926720] [] 0 = 1 := by kernel_rfl
theorem tn7e : askS [9322451228656926720] [] [0] = 0 := by kernel_rfl
theorem tn8 : cntN [9326954828284297216] [] 0 = 1 := by kernel_rfl
theorem tn8e : askS [9326954828284297216] [] [0] = 0 := by kernel_rfl
theorem tn9 : findX [0] [] 0 = 0 := by kernel_rfl
theorem tn9m : findM [0] [] 0 = 1 := by kernel_rfl
theorem tn9e : findE [0] [] 0 = 0 := by kernel_rfl
theorem tn10 : timesW 13830554455654793216 (-1001) = 9322451228656926720 := by kernel_rfl
theorem tn11 : timesW 13830554455654793216 (-1000) = 9326954828284297216 := by kernel_rfl

end Go.Proofs.Ytogkmddhgfenkaa
