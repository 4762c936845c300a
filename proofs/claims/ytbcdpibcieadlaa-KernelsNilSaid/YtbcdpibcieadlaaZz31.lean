/- Layer 8: what KernelsNil holds on to. No condition but on lengths. -/
import Derived.Test.YtbcdpibcieadlaaZz24
import Derived.Test.YtbcdpibcieadlaaKpZ
import Derived.Test.YtbcdpibcieadlaaLkZ
import Derived.Test.YtbcdpibcieadlaaLlZ
import Derived.Test.YtbcdpibcieadlaaZz28
import Derived.Test.YtbcdpibcieadlaaLyZ
import Derived.Test.YtbcdpibcieadlaaLzZ
import Derived.Test.YtbcdpibcieadlaaZz19
import Derived.Test.YtbcdpibcieadlaaZz2
import Derived.Deep.Slices
import Derived.Laws.Cover2
import Derived.Lib.SmallJoins
import Derived.ProofKit
import Derived.Test.YtbcdpibcieadlaaVw3Z
import Derived.Carry
namespace Go.Proofs.Ytbcdpibcieadlaa
open Go Go.RowKit
set_option maxRecDepth 1000000

def NW (w : World) (bs : List (Nat × List Value)) (u v : Vw) (su sv : Nat) (W : World) : Prop := ∃ us vs, StW w W bs u v su sv us vs
section
variable {w W : World} {bs : List (Nat × List Value)} {u v : Vw} {su sv : Nat}
theorem NW.get (h : NW w bs u v su sv W) (k : Nat) {n : Nat} {cs : List Value} (hk : bs[k]? = some (n, cs)) : Box W n cs := by
  obtain ⟨us, vs, h⟩ := h
  exact h.get k hk
theorem NW.below (h : NW w bs u v su sv W) : Below w.heap.size w W := by
  obtain ⟨us, vs, h⟩ := h
  exact h.below
theorem words_nil : Words [] := fun v hv => by cases hv
theorem NW.onZ (h : NW w bs u v su sv W) {f : FuncId} {args : Array Value} {E : Int} (hE : E = 1) {Q : World → Prop} (hk : Calls Try.prog f args W fun e w' => e = .returned (.int .i64 E) ∧ Q w') (hQ : ∀ w', Q w' → Bel W.heap.size W.heap.size W w') :
    Calls Try.prog f args W fun e w' => e = .returned (.int .i64 1) ∧ NW w bs u v su sv w' := by
  subst hE
  refine hk.mono ?_
  rintro e w' ⟨rfl, hq⟩
  obtain ⟨us, vs, h⟩ := h
  exact ⟨rfl, us, vs, h.step ((hQ w' hq).below (Nat.le_refl _))⟩
theorem NW.onU (h : NW w bs u v su sv W) {f : FuncId} {args : Array Value} {E : Int} (hE : E = 1) {R : World → List Nat → Prop} (hk : Calls Try.prog f args W fun e w' => e = .returned (.int .i64 E) ∧ ∃ ws, u.Ok w' su ws ∧ R w' ws ∧ Words ws ∧ Bel W.heap.size su W w') :
    Calls Try.prog f args W fun e w' => e = .returned (.int .i64 1) ∧ NW w bs u v su sv w' := by
  subst hE
  refine hk.mono ?_
  rintro e w' ⟨rfl, ws, h1, _, h2, h3⟩
  obtain ⟨us, vs, h⟩ := h
  exact ⟨rfl, ws, vs, h.setU h3 h1 h2⟩
variable (h : NW w bs u v su sv W) (a b : Nat)
include h
theorem nil_Scal : Calls Try.prog 54 #[.float .f64 a, Vw.none.val] W fun e w' => e = .returned (.int .i64 1) ∧ NW w bs u v su sv w' :=
  NW.onZ h (by simp [openE, Vw.none]) (Scal_any W a Vw.none W.heap.size [] (.inl rfl) words_nil) (fun _ ⟨_, _, _, _, k⟩ => k)
theorem nil_Axpy1 : Calls Try.prog 52 #[.float .f64 a, u.val, Vw.none.val] W fun e w' => e = .returned (.int .i64 1) ∧ NW w bs u v su sv w' := by
  obtain ⟨us, vs, k⟩ := id h
  exact NW.onZ h (by simp [openE, Vw.none]) (Axpy_any W a u Vw.none su W.heap.size us [] k.ou.1 (.inl rfl) k.wu words_nil) (fun _ ⟨_, _, _, _, k⟩ => k)
theorem nil_Axpy2 : Calls Try.prog 52 #[.float .f64 a, Vw.none.val, u.val] W fun e w' => e = .returned (.int .i64 1) ∧ NW w bs u v su sv w' := by
  obtain ⟨us, vs, k⟩ := id h
  exact NW.onU h (by simp [openE, Vw.none]) (Axpy_any W a Vw.none u 0 su [] us (.inl rfl) k.ou.1 words_nil k.wu)
theorem nil_Swap : Calls Try.prog 51 #[Vw.none.val, Vw.none.val] W fun e w' => e = .returned (.int .i64 1) ∧ NW w bs u v su sv w' := by
  refine (Swap_any W Vw.none Vw.none 0 0 [] [] (fun _ => []) false (.inl rfl) (.inl rfl) (fun V _ => Shares_nil V Vw.none Vw.none rfl) (fun _ _ _ _ _ _ => .inl rfl)).mono ?_
  rintro e w' ⟨rfl, _, h2⟩
  obtain ⟨us, vs, k⟩ := h
  exact ⟨by simp [openE, Vw.none], us, vs, k.step (h2 (by simp [openE, Vw.none]))⟩
theorem nil_Gemv1 : Calls Try.prog 27 #[.float .f64 a, u.val, u.val, .float .f64 b, Vw.none.val] W fun e w' => e = .returned (.int .i64 1) ∧ NW w bs u v su sv w' := by
  obtain ⟨us, vs, k⟩ := id h
  exact NW.onZ h (by simp [openE, Vw.none]) (Gemv_any W a b u u Vw.none su su W.heap.size us us [] k.ou.1 k.ou.1 (.inl rfl) k.wu k.wu words_nil) (fun _ ⟨_, _, _, _, k⟩ => k)
theorem nil_Gemv2 : Calls Try.prog 27 #[.float .f64 a, Vw.none.val, u.val, .float .f64 b, u.val] W fun e w' => e = .returned (.int .i64 1) ∧ NW w bs u v su sv w' := by
  obtain ⟨us, vs, k⟩ := id h
  exact NW.onU h (by simp [openE, Vw.none]) (Gemv_any W a b Vw.none u u 0 su su [] us us (.inl rfl) k.ou.1 k.ou.1 words_nil k.wu k.wu)
theorem nil_Symv : Calls Try.prog 38 #[.float .f64 a, u.val, Vw.none.val, .float .f64 b, u.val] W fun e w' => e = .returned (.int .i64 1) ∧ NW w bs u v su sv w' := by
  obtain ⟨us, vs, k⟩ := id h
  exact NW.onU h (by simp [openE, Vw.none]) (Symv_any W a b u Vw.none u su 0 su us [] us k.ou.1 (.inl rfl) k.ou.1 k.wu words_nil k.wu)
theorem nil_Ger : Calls Try.prog 40 #[.float .f64 a, Vw.none.val, u.val, u.val] W fun e w' => e = .returned (.int .i64 1) ∧ NW w bs u v su sv w' := by
  obtain ⟨us, vs, k⟩ := id h
  exact NW.onU h (by simp [openE, Vw.none]) (Ger_any W a Vw.none u u 0 su su [] us us (.inl rfl) k.ou.1 k.ou.1 words_nil k.wu k.wu)
theorem nil_Syr2 : Calls Try.prog 42 #[.float .f64 a, u.val, u.val, Vw.none.val] W fun e w' => e = .returned (.int .i64 1) ∧ NW w bs u v su sv w' := by
  obtain ⟨us, vs, k⟩ := id h
  exact NW.onZ h (by simp [openE, Vw.none]) (Syr2_any W a u u Vw.none su su W.heap.size us us [] k.ou.1 k.ou.1 (.inl rfl) k.wu k.wu words_nil) (fun _ ⟨_, _, _, _, k⟩ => k)
theorem nil_Gemm : Calls Try.prog 31 #[.float .f64 a, u.val, Vw.none.val, .float .f64 b, u.val] W fun e w' => e = .returned (.int .i64 1) ∧ NW w bs u v su sv w' := by
  obtain ⟨us, vs, k⟩ := id h
  exact NW.onU h (by simp [openE, Vw.none]) (Gemm_any W a b u Vw.none u su 0 su us [] us k.ou.1 (.inl rfl) k.ou.1 k.wu words_nil k.wu)
theorem nil_Syr2k : Calls Try.prog 44 #[.float .f64 a, u.val, u.val, .float .f64 b, Vw.none.val] W fun e w' => e = .returned (.int .i64 1) ∧ NW w bs u v su sv w' := by
  obtain ⟨us, vs, k⟩ := id h
  exact NW.onZ h (by simp [openE, Vw.none]) (Syr2k_any W a b u u Vw.none su su W.heap.size us us [] k.ou.1 k.ou.1 (.inl rfl) k.wu k.wu words_nil) (fun _ ⟨_, _, _, _, k⟩ => k)
theorem nil_Trmm : Calls Try.prog 33 #[.bool true, .bool true, Vw.none.val, u.val] W fun e w' => e = .returned (.int .i64 1) ∧ NW w bs u v su sv w' := by
  obtain ⟨us, vs, k⟩ := id h
  exact NW.onU h (by simp [openE, Vw.none]) (Trmm_any W true true Vw.none u 0 su [] us (.inl rfl) k.ou.1 words_nil k.wu)
/-- An empty view. -/
theorem empty_Gemm (hp : v.p.isSome = true) (hr : v.r = 0) (hc : v.c = 0) : Calls Try.prog 31 #[.float .f64 a, v.val, v.val, .float .f64 b, v.val] W fun e w' => e = .returned (.int .i64 0) ∧ NW w bs u v su sv w' := by
  obtain ⟨us, vs, k⟩ := h
  refine (Gemm_any W a b v v v sv sv sv vs vs vs k.ov.1 k.ov.1 k.ov.1 k.wv k.wv k.wv).mono ?_
  rintro e w' ⟨rfl, ws, h1, _, h2, h3⟩
  exact ⟨by simp [openE, hp, fits_Gemm, hr, hc], us, ws, k.setV h3 h1 h2⟩
theorem empty_Swap {st : Nat} (hp : v.p = some ⟨st, 0, none⟩) (hr : v.r = 0) (hc : v.c = 0) : Calls Try.prog 51 #[v.val, v.val] W fun e w' => e = .returned (.int .i64 0) ∧ Below w.heap.size w w' := by
  obtain ⟨us, vs, k⟩ := h
  have hf : ((v.places (plcs v.c (v.r * v.c))).any fun k => decide (k ∈ v.places (plcs v.c (v.r * v.c)))) = false := by
    rw [hr, hc]; rfl
  refine (Swap_any W v v sv sv vs vs id false k.ov.1 k.ov.1 (fun V hV => hf ▸ Shares_yes V v v st sv vs hp hp (k.ov.1.below hV) (k.ov.1.below hV)) (fun _ _ _ _ hx _ => hx)).mono ?_
  rintro e w' ⟨rfl, h1, _⟩
  have hE : openE [v, v] (fits_Swap v v false) = 0 := by simp [openE, hp, fits_Swap]
  refine ⟨by rw [hE], ?_⟩
  obtain ⟨w1, _, _, k2, k3, _, k5⟩ := h1 hE
  have b1 := k.below.trans ((k2.mono k.below.size).below k.lv)
  exact b1.trans ((k5.mono b1.size).below k.lv)
end
theorem nil_alloc {w W : World} {bs : List (Nat × List Value)} {u v : Vw} {su sv : Nat} (h : NW w bs u v su sv W) (hu : u.p.isSome = true) (hv : v.p.isSome = true) (cs : List Value) (T : TypeId) : NW w (bs ++ [(W.heap.size, cs)]) u v su sv (W.alloc (.cells cs.toArray T)) := by
  obtain ⟨us, vs, k⟩ := h
  exact ⟨us, vs, k.alloc hu hv cs T⟩
theorem nil_step {w W W' : World} {bs : List (Nat × List Value)} {u v : Vw} {su sv : Nat} (h : NW w bs u v su sv W) (hb : Below W.heap.size W W') : NW w bs u v su sv W' := by
  obtain ⟨us, vs, k⟩ := h
  exact ⟨us, vs, k.step hb⟩
theorem AmaxN (W : World) : Calls Try.prog 20 #[Vw.none.val] W fun e w' => e = .returned (.tuple #[.int .i64 0, .float .f64 0, .int .i64 1]) ∧ Below W.heap.size W w' := by
  refine (Amax_any W Vw.none 0 [] (.inl rfl) words_nil).mono ?_
  rintro e w' ⟨⟨s, rfl⟩, hb⟩
  have hE : openE [Vw.none] (vecV Vw.none.p Vw.none.r Vw.none.c) = 1 := by simp [openE, Vw.none]
  rw [hE, if_neg (by decide)]
  exact ⟨rfl, hb⟩
theorem AsumN (W : World) : Calls Try.prog 19 #[Vw.none.val] W fun e w' => e = .returned (.tuple #[.float .f64 0, .int .i64 1]) ∧ Below W.heap.size W w' :=
  AsumK W Vw.none 0 [] (.inl rfl) words_nil 0 1 (by simp [openE, Vw.none]) (by simp [asumV, openE, Vw.none]) (by kernel_rfl)
theorem DotZ (W : World) (x : Vw) (sx : Nat) (xs : List Nat) (hx : x.Ok W sx xs) (wx : Words xs) : Calls Try.prog 18 #[x.val, Vw.none.val] W fun e w' => e = .returned (.tuple #[.float .f64 0, .int .i64 1]) ∧ Below W.heap.size W w' :=
  DotK W x Vw.none sx 0 xs [] hx (.inl rfl) wx words_nil 0 1 (by simp [openE, Vw.none]) (by simp [dotV, openE, Vw.none]) (by kernel_rfl)
theorem DotE (W : World) (x : Vw) (sx : Nat) (xs : List Nat) (hx : x.Ok W sx xs) (wx : Words xs) (hp : x.p.isSome = true) (hr : x.r = 0) (hc : x.c = 0) : Calls Try.prog 18 #[x.val, x.val] W fun e w' => e = .returned (.tuple #[.float .f64 0, .int .i64 0]) ∧ Below W.heap.size W w' :=
  DotK W x x sx sx xs xs hx hx wx wx 0 0 (by simp [openE, fits2, hp, vecV, hr, hc]) (by simp [dotV, openE, fits2, hp, vecV, hr, hc, lenV, sumG]) (by kernel_rfl)
theorem AmaxE (W : World) (x : Vw) (sx : Nat) (xs : List Nat) (hx : x.Ok W sx xs) (wx : Words xs) (hp : x.p.isSome = true) (hr : x.r = 0) (hc : x.c = 0) : Calls Try.prog 20 #[x.val] W fun e w' => e = .returned (.tuple #[.int .i64 (-1), .float .f64 0, .int .i64 0]) ∧ Below W.heap.size W w' :=
  AmaxK W x sx xs hx wx (0, 0) (by simp [openE, hp, vecV, hr, hc]) (by simp [amaxV, hp, vecV, hr, hc, lenV, amaxG]) (by kernel_rfl)
/-- The world behind the three variables' making. -/
theorem nil_world {w w1 w3 : World} {st1 sb1 st2 sb2 : Nat} {Z : List Value} (x1 : Box w1 w.heap.size Z) (hS : Sto w1 (some ⟨st1, 0, none⟩) sb1 [4607182418800017408]) (hB : Below w.heap.size w w1) (k1 : w.heap.size < st1) (k2 : w.heap.size < sb1)
    (T : TypeId) (C D : List Value) (hS2 : Sto w3 (some ⟨st2, 0, none⟩) sb2 []) (k3 : (w1.alloc (.cells C.toArray T)).heap.size ≤ st2) (k4 : (w1.alloc (.cells C.toArray T)).heap.size ≤ sb2) (hb2 : Below (w1.alloc (.cells C.toArray T)).heap.size (w1.alloc (.cells C.toArray T)) w3) :
    StW w (w3.alloc (.cells D.toArray T)) [(w.heap.size, Z), (w1.heap.size, C), (w3.heap.size, D)] (newV st1 1 1) (newV st2 0 0) sb1 sb2 [4607182418800017408] [] := by
  have hl1 := sto_lts hS
  have hl2 := sto_lts hS2
  have hs := hB.size
  have hbA : Below w1.heap.size w1 (w1.alloc (.cells C.toArray T)) := (Below.refl _ _).alloc (Nat.le_refl _) _
  have hsA := hbA.size
  have hs2 := hb2.size
  have hbD : Below w3.heap.size w3 (w3.alloc (.cells D.toArray T)) := (Below.refl _ _).alloc (Nat.le_refl _) _
  have e1 : (w1.alloc (.cells C.toArray T)).heap.size = w1.heap.size + 1 := by simp
  have xC : Box (w1.alloc (.cells C.toArray T)) w1.heap.size C := Box.newA _ _ _ rfl
  have xD : Box (w3.alloc (.cells D.toArray T)) w3.heap.size D := Box.newA _ _ _ rfl
  have b1 := below_step hB hB.size hbA
  have b2 := below_step b1 b1.size hb2
  have hS1 := (hS.below hbA).below hb2
  refine ⟨fun p hp => ?_, fun p hp => ?_, fun p hp => ?_, fun p hp st hst => ?_, Vw.Apart.of (newV_ok (hS1.below hbD) (by decide) (by decide) rfl) (.inr rfl) (by omega) (by omega), Vw.Apart.of (newV_ok (hS2.below hbD) (by decide) (by decide) rfl) (.inr rfl) (by omega) (by omega), words_dec (by decide), words_nil, by omega, by omega, below_step b2 b2.size hbD⟩
  · simp only [List.mem_cons, List.not_mem_nil, or_false] at hp
    rcases hp with rfl | rfl | rfl
    · exact ((x1.below hbA).below hb2).below hbD
    · exact (xC.below hb2).below hbD
    · exact xD
  · simp only [List.mem_cons, List.not_mem_nil, or_false] at hp
    rcases hp with rfl | rfl | rfl <;> (dsimp only; omega)
  · simp only [List.mem_cons, List.not_mem_nil, or_false] at hp
    rcases hp with rfl | rfl | rfl <;> (dsimp only; omega)
  · simp only [newV, Option.some.injEq, Addr.mk.injEq, and_true] at hst
    simp only [List.mem_cons, List.not_mem_nil, or_false] at hp
    rcases hp with rfl | rfl | rfl <;> (dsimp only; omega)
end Go.Proofs.Ytbcdpibcieadlaa

/- 'plumblinelaw08.KernelsNil' (printed by gen_pn.py). No condition but on lengths. -/
namespace Go.Proofs.Ytbcdpibcieadlaa
open Go Go.RowKit
set_option maxRecDepth 1000000

theorem float0' (w : World) : Calls Try.prog 23 #[.float .f64 0, .float .f64 0] w fun e w' => e = .returned (.bool true) ∧ w = w' := by
  have h := float0 0 w
  rw [← f0eq] at h
  exact h
set_option maxHeartbeats 16000000 in
theorem nil8_any (w : World) : Calls Try.prog 14 #[] w fun e w' => e = .returned (.bool true) ∧ Below w.heap.size w w' := by
  go_enter Try.func14, Try.ntmps14
  go_upto_region 2 with (fail)
  go_wp2_with fail
  have hbB : Below w.heap.size w ((w.alloc (.cells #[.pointer none, .int .i64 0, .int .i64 0, .int .i64 0, .int .i64 0, .int .i64 0] 29)).alloc (.cells #[.float .f64 4607182418800017408] 31)) := ((Below.refl _ _).alloc (Nat.le_refl _) _).alloc (by simp) _
  have x1 : Box ((w.alloc (.cells #[.pointer none, .int .i64 0, .int .i64 0, .int .i64 0, .int .i64 0, .int .i64 0] 29)).alloc (.cells #[.float .f64 4607182418800017408] 31)) w.heap.size [.pointer none, .int .i64 0, .int .i64 0, .int .i64 0, .int .i64 0, .int .i64 0] := (Box.newA w [.pointer none, .int .i64 0, .int .i64 0, .int .i64 0, .int .i64 0, .int .i64 0] _ rfl).alloc _
  have x2 : Box ((w.alloc (.cells #[.pointer none, .int .i64 0, .int .i64 0, .int .i64 0, .int .i64 0, .int .i64 0] 29)).alloc (.cells #[.float .f64 4607182418800017408] 31)) (w.heap.size + 1) ([4607182418800017408].map (Value.float .f64)) := Box.newA _ [.float .f64 4607182418800017408] _ (by simp)
  refine (vecB [4607182418800017408] 1 (w.heap.size + 1) _ rfl (by decide) x2).mono ?_
  rintro e w1 ⟨st1, sb1, rfl, k1, k2, hS, hb⟩
  simp only [World.size_alloc] at k1 k2
  have HA := Lib.hid (show _ ∧ _ ∧ _ ∧ _ ∧ _ from ⟨x1.below hb, hS, below_step hbB hbB.size hb, (show w.heap.size < st1 by omega), (show w.heap.size < sb1 by omega)⟩)
  clear hbB x1 x2 hb hS k1 k2
  obtain ⟨u, hu⟩ : ∃ u, u = newV st1 1 1 := ⟨_, rfl⟩
  rw [← hu]
  have HU := Lib.hid hu
  clear hu
  dsimp only
  unfold Vw.val
  go_upto_region 3 with (fail)
  go_wp2_with fail
  refine (New_yes 0 0 _ (by decide) (by decide)).mono ?_
  rintro e w3 ⟨st2, sb2, rfl, k3, k4, hS2, hb2⟩
  have HW := Lib.hid (nil_world HA.out.1 HA.out.2.1 HA.out.2.2.1 HA.out.2.2.2.1 HA.out.2.2.2.2 29 _ [.pointer (newV st2 0 0).p, .int .i64 (newV st2 0 0).r, .int .i64 (newV st2 0 0).c, .int .i64 (newV st2 0 0).o, .int .i64 (newV st2 0 0).d, .int .i64 (newV st2 0 0).u] hS2 k3 k4 hb2)
  clear HA k3 k4 hS2 hb2
  obtain ⟨v, hv⟩ : ∃ v, v = newV st2 0 0 := ⟨_, rfl⟩
  rw [← HU.out, ← hv] at HW
  rw [← hv]
  have PP := Lib.hid (show u.p.isSome = true ∧ v.p.isSome = true ∧ v.p = some ⟨st2, 0, none⟩ ∧ v.r = 0 ∧ v.c = 0 from by rw [HU.out, hv]; exact ⟨rfl, rfl, rfl, rfl, rfl⟩)
  clear hv HU
  dsimp only
  unfold Vw.val
  go_upto_region 4 with (fail)
  obtain ⟨P2, hP2⟩ : ∃ P, P = w1.heap.size := ⟨_, rfl⟩
  obtain ⟨P3, hP3⟩ : ∃ P, P = w3.heap.size := ⟨_, rfl⟩
  simp only [← hP2, ← hP3] at HW ⊢
  generalize w3.alloc (.cells #[.pointer v.p, .int .i64 v.r, .int .i64 v.c, .int .i64 v.o, .int .i64 v.d, .int .i64 v.u] 29) = V0 at *
  clear hP2 hP3
  have T0 := HW
  clear HW
  obtain ⟨f01, f02, f03⟩ := (T0.out.get 0 rfl).facts
  go_wp2_with fail
  refine (AsumN _).mono ?_
  rintro e y1 ⟨rfl, hb⟩
  have T1 := Lib.hid (T0.out.step hb)
  clear hb f01 f02 f03
  dsimp only
  obtain ⟨f01, f02, f03⟩ := (T1.out.get 0 rfl).facts
  go_wp2_with fail
  refine (AmaxN _).mono ?_
  rintro e y2 ⟨rfl, hb⟩
  have T2 := Lib.hid (T1.out.step hb)
  clear hb f01 f02 f03
  dsimp only
  obtain ⟨f01, f02, f03⟩ := (T2.out.get 0 rfl).facts
  obtain ⟨f11, f12, f13⟩ := (T2.out.get 1 rfl).facts
  go_wp2_with fail
  refine (DotZ _ u sb1 _ T2.out.ou.1 T2.out.wu).mono ?_
  rintro e y3 ⟨rfl, hb⟩
  have T3 := Lib.hid (T2.out.step hb)
  clear hb f01 f02 f03 f11 f12 f13
  dsimp only
  obtain ⟨f21, f22, f23⟩ := (T3.out.get 2 rfl).facts
  go_wp2_with fail
  refine (DotE _ v sb2 _ T3.out.ov.1 T3.out.wv PP.out.2.1 PP.out.2.2.2.1 PP.out.2.2.2.2).mono ?_
  rintro e y4 ⟨rfl, hb⟩
  have T4 := Lib.hid (T3.out.step hb)
  clear hb f21 f22 f23
  dsimp only
  obtain ⟨f21, f22, f23⟩ := (T4.out.get 2 rfl).facts
  go_wp2_with fail
  refine (AmaxE _ v sb2 _ T4.out.ov.1 T4.out.wv PP.out.2.1 PP.out.2.2.2.1 PP.out.2.2.2.2).mono ?_
  rintro e y5 ⟨rfl, hb⟩
  have T5 := Lib.hid (T4.out.step hb)
  clear hb f21 f22 f23
  dsimp only
  go_upto_region 9 with (fail)
  have hdr : Below y5.heap.size y5 y5.drew := below_drewN 1 (Below.refl _ y5)
  have N0 := Lib.hid (show NW w [(w.heap.size, [.pointer none, .int .i64 0, .int .i64 0, .int .i64 0, .int .i64 0, .int .i64 0]), (P2, [.pointer u.p, .int .i64 u.r, .int .i64 u.c, .int .i64 u.o, .int .i64 u.d, .int .i64 u.u]), (P3, [.pointer v.p, .int .i64 v.r, .int .i64 v.c, .int .i64 v.o, .int .i64 v.d, .int .i64 v.u])] u v sb1 sb2 y5.drew from ⟨_, _, T5.out.step hdr⟩)
  clear hdr
  have HS := Lib.hid (show ∀ W, NW w [(w.heap.size, [.pointer none, .int .i64 0, .int .i64 0, .int .i64 0, .int .i64 0, .int .i64 0]), (P2, [.pointer u.p, .int .i64 u.r, .int .i64 u.c, .int .i64 u.o, .int .i64 u.d, .int .i64 u.u]), (P3, [.pointer v.p, .int .i64 v.r, .int .i64 v.c, .int .i64 v.o, .int .i64 v.d, .int .i64 v.u])] u v sb1 sb2 W → (fun W => (∀ i, W.cell? ⟨w.heap.size, i, none⟩ = ([.pointer none, .int .i64 0, .int .i64 0, .int .i64 0, .int .i64 0, .int .i64 0] : List Value)[i]?) ∧ (∀ i, W.cell? ⟨P2, i, none⟩ = ([.pointer u.p, .int .i64 u.r, .int .i64 u.c, .int .i64 u.o, .int .i64 u.d, .int .i64 u.u] : List Value)[i]?)) W from fun W h => ⟨(h.get 0 rfl).cell, (h.get 1 rfl).cell⟩)
  refine wp_region_items 45 [(true, 0), (true, 1), (true, 2), (true, 3), (true, 5), (true, 6), (true, 8), (true, 9), (true, 11), (true, 12), (true, 14), (true, 15), (true, 16), (true, 18), (true, 19), (true, 20), (true, 22), (true, 23), (true, 24), (true, 26), (true, 27), (true, 28), (true, 30), (true, 31), (true, 32), (true, 34), (true, 35), (true, 36), (true, 38), (true, 39), (true, 40), (true, 42), (true, 43), (false, 4), (false, 7), (false, 10), (false, 13), (false, 17), (false, 21), (false, 25), (false, 29), (false, 33), (false, 37), (false, 41), (false, 44)] (fun W => (∀ i, W.cell? ⟨w.heap.size, i, none⟩ = ([.pointer none, .int .i64 0, .int .i64 0, .int .i64 0, .int .i64 0, .int .i64 0] : List Value)[i]?) ∧ (∀ i, W.cell? ⟨P2, i, none⟩ = ([.pointer u.p, .int .i64 u.r, .int .i64 u.c, .int .i64 u.o, .int .i64 u.d, .int .i64 u.u] : List Value)[i]?)) (by kernel_rfl) (by kernel_rfl) (HS.out _ N0.out) ?_
  generalize y5.drew = z0 at *
  iterate 33 (refine iW_take (v := ?_) rfl rfl ?_ ?_; rotate_left; (next => (intro w' hSw; (try dsimp only at hSw); go_simp; (try (rw [if_pos (by omega)]; go_simp)); (try with_reducible rfl))); (simp only [Act.put, List.setIfInBounds_toArray, List.set_cons_zero, List.set_cons_succ]))
  refine iW_mid rfl rfl ?_
  go_simp
  refine (nil_Scal N0.out _).mono ?_
  rintro e z1 ⟨rfl, hN⟩
  have N1 := Lib.hid hN
  refine ⟨HS.out _ hN, ?_⟩
  clear hN
  refine iW_mid rfl rfl ?_
  go_simp
  refine (nil_Axpy1 N1.out _).mono ?_
  rintro e z2 ⟨rfl, hN⟩
  have N2 := Lib.hid hN
  refine ⟨HS.out _ hN, ?_⟩
  clear hN
  refine iW_mid rfl rfl ?_
  go_simp
  refine (nil_Axpy2 N2.out _).mono ?_
  rintro e z3 ⟨rfl, hN⟩
  have N3 := Lib.hid hN
  refine ⟨HS.out _ hN, ?_⟩
  clear hN
  refine iW_mid rfl rfl ?_
  go_simp
  refine (nil_Swap N3.out).mono ?_
  rintro e z4 ⟨rfl, hN⟩
  have N4 := Lib.hid hN
  refine ⟨HS.out _ hN, ?_⟩
  clear hN
  refine iW_mid rfl rfl ?_
  go_simp
  refine (nil_Gemv1 N4.out _ _).mono ?_
  rintro e z5 ⟨rfl, hN⟩
  have N5 := Lib.hid hN
  refine ⟨HS.out _ hN, ?_⟩
  clear hN
  refine iW_mid rfl rfl ?_
  go_simp
  refine (nil_Gemv2 N5.out _ _).mono ?_
  rintro e z6 ⟨rfl, hN⟩
  have N6 := Lib.hid hN
  refine ⟨HS.out _ hN, ?_⟩
  clear hN
  refine iW_mid rfl rfl ?_
  go_simp
  refine (nil_Symv N6.out _ _).mono ?_
  rintro e z7 ⟨rfl, hN⟩
  have N7 := Lib.hid hN
  refine ⟨HS.out _ hN, ?_⟩
  clear hN
  refine iW_mid rfl rfl ?_
  go_simp
  refine (nil_Ger N7.out _).mono ?_
  rintro e z8 ⟨rfl, hN⟩
  have N8 := Lib.hid hN
  refine ⟨HS.out _ hN, ?_⟩
  clear hN
  refine iW_mid rfl rfl ?_
  go_simp
  refine (nil_Syr2 N8.out _).mono ?_
  rintro e z9 ⟨rfl, hN⟩
  have N9 := Lib.hid hN
  refine ⟨HS.out _ hN, ?_⟩
  clear hN
  refine iW_mid rfl rfl ?_
  go_simp
  refine (nil_Gemm N9.out _ _).mono ?_
  rintro e z10 ⟨rfl, hN⟩
  have N10 := Lib.hid hN
  refine ⟨HS.out _ hN, ?_⟩
  clear hN
  refine iW_mid rfl rfl ?_
  go_simp
  refine (nil_Syr2k N10.out _ _).mono ?_
  rintro e z11 ⟨rfl, hN⟩
  have N11 := Lib.hid hN
  refine ⟨HS.out _ hN, ?_⟩
  clear hN
  refine iW_mid rfl rfl ?_
  go_simp
  refine (nil_Trmm N11.out).mono ?_
  rintro e z12 ⟨rfl, hN⟩
  have N12 := Lib.hid hN
  refine ⟨HS.out _ hN, ?_⟩
  clear hN
  refine iW_nil ?_
  go_simp
  go_wp2_with fail
  refine NoPanic.normal ?_
  have M0 := Lib.hid (nil_alloc N12.out PP.out.1 PP.out.2.1 [.int .i64 1, .int .i64 1, .int .i64 1, .int .i64 1, .int .i64 1, .int .i64 1, .int .i64 1, .int .i64 1, .int .i64 1, .int .i64 1, .int .i64 1, .int .i64 1, .int .i64 1, .int .i64 1, .int .i64 1] 32)
  obtain ⟨P4, hP4⟩ : ∃ P, P = z12.heap.size := ⟨_, rfl⟩
  simp only [← hP4] at M0 ⊢
  generalize z12.alloc (.cells #[.int .i64 1, .int .i64 1, .int .i64 1, .int .i64 1, .int .i64 1, .int .i64 1, .int .i64 1, .int .i64 1, .int .i64 1, .int .i64 1, .int .i64 1, .int .i64 1, .int .i64 1, .int .i64 1, .int .i64 1] 32) = V1 at *
  clear hP4
  go_wp2_with fail
  go_loopw [18] (fun s18 wr => ∃ k : Nat, k ≤ 15 ∧ s18 = .int .i64 k ∧ NW w ([(w.heap.size, [.pointer none, .int .i64 0, .int .i64 0, .int .i64 0, .int .i64 0, .int .i64 0]), (P2, [.pointer u.p, .int .i64 u.r, .int .i64 u.c, .int .i64 u.o, .int .i64 u.d, .int .i64 u.u]), (P3, [.pointer v.p, .int .i64 v.r, .int .i64 v.c, .int .i64 v.o, .int .i64 v.d, .int .i64 v.u])] ++ [(P4, [.int .i64 1, .int .i64 1, .int .i64 1, .int .i64 1, .int .i64 1, .int .i64 1, .int .i64 1, .int .i64 1, .int .i64 1, .int .i64 1, .int .i64 1, .int .i64 1, .int .i64 1, .int .i64 1, .int .i64 1])]) u v sb1 sb2 wr) (fun s18 _ => 15 - (intOf s18).toNat)
  case atStart => exact ⟨0, by decide, rfl, M0.out⟩
  case round =>
    obtain ⟨k, hk, rfl, hN⟩ := hrel
    have NN := Lib.hid hN
    by_cases hlt : k < 15
    · have c1 : wr.cell? ⟨P4, k, none⟩ = some (.int .i64 1) := by
        rw [Box.cell (show Box wr P4 (List.replicate 15 (.int .i64 1)) from NN.out.get 3 rfl)]
        rw [List.getElem?_replicate, if_pos hlt]
      have d1 := (NN.out.get 3 rfl).lt
      clear hN hk
      go_wp2_with (go_at_call 22; refine (num8_any _ _).mono ?_; rintro e w' ⟨rfl, rfl⟩)
      go_roundw
      case rel => exact ⟨k + 1, hlt, by go_num, NN.out⟩
      case measure => simp [intOf]; omega
    · obtain rfl : k = 15 := by omega
      clear hN hk hlt
      obtain ⟨g1, g2, g3⟩ := (NN.out.get 2 rfl).facts
      go_wp2_with (first | (go_at_call 22; refine (num8_any _ _).mono ?_; rintro e w' ⟨rfl, rfl⟩) | (go_at_call 23; refine (float0' _).mono ?_; rintro e w' ⟨rfl, rfl⟩))
      refine (empty_Gemm NN.out _ _ PP.out.2.1 PP.out.2.2.2.1 PP.out.2.2.2.2).mono ?_
      rintro e x1 ⟨rfl, hN⟩
      have N1' := Lib.hid hN
      clear hN g1 g2 g3
      dsimp only
      obtain ⟨g1, g2, g3⟩ := (N1'.out.get 2 rfl).facts
      go_wp2_with (go_at_call 22; refine (num8_any _ _).mono ?_; rintro e w' ⟨rfl, rfl⟩)
      refine (empty_Swap N1'.out PP.out.2.2.1 PP.out.2.2.2.1 PP.out.2.2.2.2).mono ?_
      rintro e x2 ⟨rfl, hb⟩
      have HB := Lib.hid hb
      clear hb g1 g2 g3
      dsimp only
      go_wp2_with (go_at_call 22; refine (num8_any _ _).mono ?_; rintro e w' ⟨rfl, rfl⟩)
      refine (known08_any _).mono ?_
      rintro e x3 ⟨rfl, hb⟩
      have HC := Lib.hid (below_step HB.out HB.out.size hb)
      clear hb
      dsimp only
      go_wp2_with fail
      go_ret
      exact ⟨rfl, HC.out⟩
end Go.Proofs.Ytbcdpibcieadlaa

/- Arguments opened: slices of floats; a way up for results. No condition. -/
namespace Go.Proofs.Ytbcdpibcieadlaa
open Go Go.RowKit Go.ChangeShapes Go.WideShapes Go.Deep

section
variable {H : Type} {enc : TypeId × Value → H} {P : Program} {w : World} {base : Nat} {spare : Nat → Bool} {held : Bool}

theorem trod_f64 {fuel : Nat} {t : TypeId} {cs : List Value} {x : DataW H × List MemPlace} (ht : P.underlying t = some (.float .f64)) (h : DataW.trod enc P w base spare held fuel t cs = some x) : ∃ n, cs = [.float .f64 n] ∧ x = (.lit (.float .f64 n), []) ∧ n < 18446744073709551616 := by
  cases fuel with
  | zero => simp [DataW.trod] at h
  | succ n =>
    unfold DataW.trod at h
    rw [ht] at h
    split at h <;> simp_all
    rename_i k k' b hk
    subst hk
    obtain ⟨⟨rfl, hw⟩, rfl⟩ := h
    simp [Lit.wf] at hw
    exact hw

/-- A slice of floats: where it lies, its floats. -/
theorem open_fls {t e : TypeId} {fuel : Nat} {v : Value} {x : DataW H × List MemPlace} (ht : P.underlying t = some (.slice e)) (he : P.underlying e = some (.float .f64)) (hc : P.cellsOf e = 1) (h : DataW.trod enc P w base spare held fuel t [v] = some x) :
    ∃ (a : Option Addr) (zs : List Nat) (cap : Nat), v = .slice a zs.length cap ∧ Fls w a zs ∧ Words zs ∧ zs.length ≤ maxLen := by
  rcases open_slice1 ht hc h with ⟨h1, h2⟩ | ⟨a, len, cap, m, n, V, D, Pl, h1, hb, hl, hm, hmm, h2, hx⟩
  · simp only [List.cons.injEq, and_true] at h1
    subst h1
    exact ⟨none, [], 0, rfl, fun hz => absurd rfl hz, fun v hv => (by cases hv), Nat.zero_le _⟩
  · simp only [List.cons.injEq, and_true] at h1
    subst h1
    have hlm : len ≤ m := by rw [hmm]; split <;> omega
    obtain ⟨F, hF⟩ := choose_lt (α := Nat) (p := fun i x => w.cell? (a.add i) = some (.float .f64 x) ∧ x < 18446744073709551616) (n := len) (fun i hi => by
      obtain ⟨c, ht2⟩ := hx i (by omega)
      obtain ⟨x, hx1, _, hx2⟩ := trod_f64 he ht2
      simp only [List.cons.injEq, and_true] at hx1
      exact ⟨x, by rw [c, hx1], hx2⟩)
    refine ⟨some a, (List.range len).map F, cap, by simp, ?_, ?_, by simp; omega⟩
    · intro hz
      have hlen : 0 < len := by
        cases len with
        | zero => exact absurd rfl hz
        | succ n => omega
      have h0 := (hF 0 hlen).1
      obtain ⟨b, off, spot⟩ := a
      have hsp : spot = none ∧ b < w.heap.size := by
        unfold Addr.add World.cell? at h0
        simp only [if_true] at h0
        cases hh : w.heap[b]? with
        | none => rw [hh] at h0; cases h0
        | some o =>
          rw [hh] at h0
          refine ⟨?_, (Array.getElem?_eq_some_iff.1 hh).1⟩
          cases o with
          | cells c T r => simp only [] at h0; cases spot with
            | none => rfl
            | some s => simp at h0
          | _ => simp at h0
      obtain ⟨rfl, hbl⟩ := hsp
      refine ⟨b, off, rfl, hbl, fun i v hv => ?_⟩
      simp only [List.getElem?_map, Option.map_eq_some_iff] at hv
      obtain ⟨j, hj, rfl⟩ := hv
      have hi : i < len := by
        by_cases hi : i < len
        · exact hi
        · rw [List.getElem?_eq_none (by simp; omega)] at hj; cases hj
      rw [List.getElem?_range hi] at hj
      cases hj
      have := (hF i hi).1
      have ha : (Addr.add ⟨b, off, none⟩ i) = ⟨b, off + i, none⟩ := by
        unfold Addr.add
        split
        · subst_vars; rfl
        · rfl
      rw [ha] at this
      obtain ⟨s, hs⟩ := raw_self (hF i hi).2
      exact ⟨s, by rw [this, ← hs]⟩
    · intro v hv
      simp only [List.mem_map, List.mem_range] at hv
      obtain ⟨i, hi, rfl⟩ := hv
      exact (hF i hi).2
end
end Go.Proofs.Ytbcdpibcieadlaa

/- A law's row closed: the result is true, nothing that was there has turned, each argument reads as it did. No condition. -/
namespace Go.Proofs.Ytbcdpibcieadlaa
open Go Go.RowKit Go.ChangeShapes Go.WideShapes

section
variable {H : Type} {enc : TypeId × Value → H} {P : Program}

theorem trodAll_stays (hl : laidOutB P = true) {W W' : World} {sp : Nat → Bool} : ∀ {ts : List TypeId} {vs : List Value} {ds : List (DataW H)} {ps : List MemPlace},
    ts.all (fun t => P.readableRec t && decide (t < P.types.size)) = true → DataW.TrodAll enc P W 0 (fun _ => true) true ts vs ds ps → (∀ p ∈ ps, W.sameAt W' p) → (∀ p ∈ ps, sp p.block = true) → DataW.TrodAll enc P W' 0 sp true ts vs ds ps
  | [], _, _, _, _, h, _, _ => by
    obtain ⟨rfl, rfl, rfl⟩ := trodAll_nil h
    rfl
  | t :: ts, _, _, _, ht, h, h1, h2 => by
    obtain ⟨v, vs, d, ds, p, q, rfl, rfl, rfl, hd, hr⟩ := trodAll_cons h
    simp only [List.all_cons, Bool.and_eq_true, decide_eq_true_eq] at ht
    refine ⟨p, q, WideElems.Trod_stays hl ht.1.1 ht.1.2 hd (fun x hx => h1 x (by simp [hx])) (fun x hx => h2 x (by simp [hx])), trodAll_stays hl ht.2 hr (fun x hx => h1 x (by simp [hx])) (fun x hx => h2 x (by simp [hx])), rfl⟩

/-- What a law's row asks in the end. -/
theorem post_of_below {f : Func} {s : ChangeSpec} {apart fresh handsOn again : Bool} {W W' : World} {args : Array Value} {ds : List (DataW H)} {before : List MemPlace} {tb : TypeId}
    (hl : laidOutB P = true) (hread : f.params.toList.all (fun t => P.readableRec t && decide (t < P.types.size)) = true) (hv : s.vars = [])
    (hW : DataW.Whole enc P f.params.toList s.vars apart W args.toList ds [] before)
    (hs : s.fn H ds = { results := [.lit (.bool true)], args := ds }) (hb : Below W.heap.size W W') (hr : f.resultTypes = #[tb]) (htb : P.underlying tb = some .bool) :
    s.post enc P f apart fresh handsOn again W args (.bool true) W' := by
  have hlt : ∀ p ∈ before, p.block < W.heap.size := fun p hp => hW.lt p hp
  have hsame : ∀ p ∈ before, W.sameAt W' p := fun p hp => hb.same (hlt p hp)
  have hW0 := hW
  obtain ⟨p, q, hA, hV, rfl, hz, hn⟩ := hW0
  have hq : q = [] := by rw [hv] at hV; exact hV
  subst hq
  rw [List.append_nil] at hlt hsame hz hn
  have hres : ∀ (b : Nat) (sp : Nat → Bool) (hd : Bool), DataW.TrodAll enc P W' b sp hd f.resultTypes.toList ((Value.bool true).resultList f.resultTypes.size) (s.fn H (ds ++ [])).results [] := by
    intro b sp hd
    rw [List.append_nil, hs, hr]
    exact trodAll_mk1 (shut_bool htb _)
  have hargs : ∀ sp : Nat → Bool, (∀ x ∈ p, sp x.block = true) → DataW.TrodAll enc P W' 0 sp true f.params.toList args.toList (s.fn H (ds ++ [])).args p := by
    intro sp hsp
    rw [List.append_nil, hs]
    exact trodAll_stays hl hread hA hsame hsp
  have hvars : ∀ sp : Nat → Bool, DataW.TrodVars enc P W' sp s.vars (s.fn H (ds ++ [])).vars [] := by
    intro sp
    rw [List.append_nil, hs, hv]
    rfl
  have hold : ∀ x ∈ p, (fun b => decide (b < W.heap.size)) x.block = true := fun x hx => by simpa using hlt x hx
  refine ⟨ds, [], p ++ [], [], p, [], hW, hres _ _ _, hargs _ hold, hvars _, hb.frame _, fun _ => ?_⟩
  refine ⟨?_, _, _, ([] ++ p) ++ [], ⟨[] ++ p, [], trodAll_append (hargs _ (fun _ _ => rfl)) (hres _ _ _), hvars _, rfl, ?_, ?_⟩, ?_⟩
  · exact ok_one hr rfl (okWide_bool_mk htb _)
  · intro b off hp
    have h1 := hlt (MemPlace.cell b off) (by simpa using hp)
    rw [hb.frozen (p := ⟨b, off, none⟩) h1]
    exact hz b off (by simpa using hp)
  · intro ha
    have := hn ha
    simpa using this
  · intro x hx _
    simpa using hx
end
end Go.Proofs.Ytbcdpibcieadlaa

/- Arguments opened: slices of floats, cell by cell; a struct of five. No condition. -/
namespace Go.Proofs.Ytbcdpibcieadlaa
open Go Go.RowKit Go.ChangeShapes Go.WideShapes Go.Deep

section
variable {H : Type} {enc : TypeId × Value → H} {P : Program} {w : World} {base : Nat} {spare : Nat → Bool} {held : Bool}

/-- A slice of floats: where it lies, its floats. -/
theorem open_cel {t e : TypeId} {fuel : Nat} {v : Value} {x : DataW H × List MemPlace} (ht : P.underlying t = some (.slice e)) (he : P.underlying e = some (.float .f64)) (hc : P.cellsOf e = 1) (h : DataW.trod enc P w base spare held fuel t [v] = some x) :
    ∃ (a : Option Addr) (zs : List Nat) (cap : Nat), v = .slice a zs.length cap ∧ Cel w a zs ∧ Words zs ∧ zs.length ≤ maxLen := by
  rcases open_slice1 ht hc h with ⟨h1, h2⟩ | ⟨a, len, cap, m, n, V, D, Pl, h1, hb, hl, hm, hmm, h2, hx⟩
  · simp only [List.cons.injEq, and_true] at h1
    subst h1
    exact ⟨none, [], 0, rfl, fun hz => absurd rfl hz, fun v hv => (by cases hv), Nat.zero_le _⟩
  · simp only [List.cons.injEq, and_true] at h1
    subst h1
    have hlm : len ≤ m := by rw [hmm]; split <;> omega
    obtain ⟨F, hF⟩ := choose_lt (α := Nat) (p := fun i x => w.cell? (a.add i) = some (.float .f64 x) ∧ x < 18446744073709551616) (n := len) (fun i hi => by
      obtain ⟨c, ht2⟩ := hx i (by omega)
      obtain ⟨x, hx1, _, hx2⟩ := trod_f64 he ht2
      simp only [List.cons.injEq, and_true] at hx1
      exact ⟨x, by rw [c, hx1], hx2⟩)
    refine ⟨some a, (List.range len).map F, cap, by simp, ?_, ?_, by simp; omega⟩
    · intro hz
      have hlen : 0 < len := by
        cases len with
        | zero => exact absurd rfl hz
        | succ n => omega
      have h0 := (hF 0 hlen).1
      obtain ⟨b, off, spot⟩ := a
      have hsp : spot = none ∧ b < w.heap.size := by
        unfold Addr.add World.cell? at h0
        simp only [if_true] at h0
        cases hh : w.heap[b]? with
        | none => rw [hh] at h0; cases h0
        | some o =>
          rw [hh] at h0
          refine ⟨?_, (Array.getElem?_eq_some_iff.1 hh).1⟩
          cases o with
          | cells c T r => simp only [] at h0; cases spot with
            | none => rfl
            | some s => simp at h0
          | _ => simp at h0
      obtain ⟨rfl, hbl⟩ := hsp
      refine ⟨b, off, rfl, hbl, fun i v hv => ?_⟩
      simp only [List.getElem?_map, Option.map_eq_some_iff] at hv
      obtain ⟨j, hj, rfl⟩ := hv
      have hi : i < len := by
        by_cases hi : i < len
        · exact hi
        · rw [List.getElem?_eq_none (by simp; omega)] at hj; cases hj
      rw [List.getElem?_range hi] at hj
      cases hj
      have := (hF i hi).1
      have ha : (Addr.add ⟨b, off, none⟩ i) = ⟨b, off + i, none⟩ := by
        unfold Addr.add
        split
        · subst_vars; rfl
        · rfl
      rw [ha] at this
      exact this
    · intro v hv
      simp only [List.mem_map, List.mem_range] at hv
      obtain ⟨i, hi, rfl⟩ := hv
      exact (hF i hi).2

theorem array5 {α : Type} {cs : Array α} (h : cs.size = 5) : ∃ c0 c1 c2 c3 c4, cs = #[c0, c1, c2, c3, c4] := by
  obtain ⟨l⟩ := cs
  match l, h with
  | [c0, c1, c2, c3, c4], _ => exact ⟨c0, c1, c2, c3, c4, rfl⟩

/-- Five ints, by value. -/
theorem trod_ints5 {t ti : TypeId} {fuel : Nat} {cs : List Value} {x : DataW H × List MemPlace} {f0 f1 f2 f3 f4 : Field} (hs : P.underlying t = some (.struct #[f0, f1, f2, f3, f4]))
    (hf : [f0, f1, f2, f3, f4].all (fun f => f.type == ti) = true) (ho : f0.offset = 0 ∧ f1.offset = 1 ∧ f2.offset = 2 ∧ f3.offset = 3 ∧ f4.offset = 4) (hi : P.underlying ti = some (.int .i64)) (hc : P.cellsOf ti = 1) (hC : P.cellsOf t = 5)
    (h : DataW.trod enc P w base spare held fuel t cs = some x) : ∃ K A B C D : Int, cs = [.int .i64 K, .int .i64 A, .int .i64 B, .int .i64 C, .int .i64 D] ∧ x.2 = [] := by
  obtain ⟨xs, n, _, rfl, hl, hlen, hfl⟩ := DataW.trod_struct hs h
  rw [hC] at hl
  obtain ⟨c0, c1, c2, c3, c4, hcs⟩ := array5 (cs := cs.toArray) (by simpa using hl)
  obtain rfl : cs = [c0, c1, c2, c3, c4] := by simpa using congrArg Array.toList hcs
  simp only [List.all_cons, List.all_nil, Bool.and_eq_true, beq_iff_eq, and_true] at hf
  obtain ⟨e0, e1, e2, e3, e4⟩ := hf
  obtain ⟨o0, o1, o2, o3, o4⟩ := ho
  match xs, hlen with
  | [y0, y1, y2, y3, y4], _ =>
    have g0 := hfl 0 f0 rfl
    have g1 := hfl 1 f1 rfl
    have g2 := hfl 2 f2 rfl
    have g3 := hfl 3 f3 rfl
    have g4 := hfl 4 f4 rfl
    simp only [e0, e1, e2, e3, e4, o0, o1, o2, o3, o4, hc, List.drop_zero, List.drop_succ_cons, List.take_succ_cons, List.take_zero, List.getElem?_cons_zero, List.getElem?_cons_succ] at g0 g1 g2 g3 g4
    obtain ⟨K, k1, k2, _⟩ := DataW.trod_int hi g0
    obtain ⟨A, a1, a2, _⟩ := DataW.trod_int hi g1
    obtain ⟨B, b1, b2, _⟩ := DataW.trod_int hi g2
    obtain ⟨C, c1, c2, _⟩ := DataW.trod_int hi g3
    obtain ⟨D, d1, d2, _⟩ := DataW.trod_int hi g4
    simp only [List.cons.injEq, and_true] at k1 a1 b1 c1 d1
    refine ⟨K, A, B, C, D, by rw [k1, a1, b1, c1, d1], ?_⟩
    simp [k2, a2, b2, c2, d2]

theorem open_step {r : Reach} {b0 : Nat} {t ti : TypeId} {v : Value} {d : DataW H} {p : List MemPlace} {f0 f1 f2 f3 f4 : Field} (hs : P.underlying t = some (.struct #[f0, f1, f2, f3, f4]))
    (hf : [f0, f1, f2, f3, f4].all (fun f => f.type == ti) = true) (ho : f0.offset = 0 ∧ f1.offset = 1 ∧ f2.offset = 2 ∧ f3.offset = 3 ∧ f4.offset = 4) (hi : P.underlying ti = some (.int .i64)) (hc : P.cellsOf ti = 1) (hC : P.cellsOf t = 5)
    (hv : Value.okWide P w r b0 t v) (h : DataW.Trod enc P w base spare held t v d p) : ∃ K A B C D : Int, v = .agg #[.int .i64 K, .int .i64 A, .int .i64 B, .int .i64 C, .int .i64 D] := by
  obtain ⟨cs, rfl, hsz⟩ := okWide_struct hs hv
  obtain ⟨fuel, h⟩ := h
  obtain ⟨K, A, B, C, D, hcs, _⟩ := trod_ints5 hs hf ho hi hc hC h
  refine ⟨K, A, B, C, D, ?_⟩
  have : cs.toList = [.int .i64 K, .int .i64 A, .int .i64 B, .int .i64 C, .int .i64 D] := by simpa [Value.cells] using hcs
  rw [show cs = cs.toList.toArray by simp, this]
end
end Go.Proofs.Ytbcdpibcieadlaa

/- Arguments opened: slices of floats, cell by cell, with what they can hold; five and six arguments. No condition. -/
namespace Go.Proofs.Ytbcdpibcieadlaa
open Go Go.RowKit Go.ChangeShapes Go.WideShapes Go.Deep
section
variable {H : Type} {enc : TypeId × Value → H} {P : Program} {w : World} {base : Nat} {spare : Nat → Bool} {held : Bool}
theorem open_cec {t e : TypeId} {fuel : Nat} {v : Value} {x : DataW H × List MemPlace} (ht : P.underlying t = some (.slice e)) (he : P.underlying e = some (.float .f64)) (hc : P.cellsOf e = 1) (h : DataW.trod enc P w base spare held fuel t [v] = some x) :
    ∃ (a : Option Addr) (zs : List Nat) (cap : Nat), v = .slice a zs.length cap ∧ Cel w a zs ∧ Words zs ∧ zs.length ≤ maxLen ∧ zs.length ≤ cap ∧ cap ≤ maxLen := by
  obtain ⟨a, zs, cap, hv, h1, h2, h3⟩ := open_cel ht he hc h
  refine ⟨a, zs, cap, hv, h1, h2, h3, ?_⟩
  rcases open_slice1 ht hc h with ⟨k1, _⟩ | ⟨a', len, cap', m, n, V, D, Pl, k1, _, k2, k3, _⟩
  · simp only [List.cons.injEq, and_true] at k1
    rw [k1] at hv
    simp only [Value.slice.injEq] at hv
    rw [← hv.2.1, ← hv.2.2]
    exact ⟨Nat.le_refl _, Nat.zero_le _⟩
  · simp only [List.cons.injEq, and_true] at k1
    rw [k1] at hv
    simp only [Value.slice.injEq] at hv
    rw [← hv.2.1, ← hv.2.2]
    exact ⟨k2, k3⟩
theorem trodAll_5 {t0 t1 t2 t3 t4 : TypeId} {args : Array Value} {ds : List (DataW H)} {ps : List MemPlace} (h : DataW.TrodAll enc P w base spare held [t0, t1, t2, t3, t4] args.toList ds ps) :
    ∃ v0 v1 v2 v3 v4 d0 d1 d2 d3 d4 p0 p1 p2 p3 p4, args = #[v0, v1, v2, v3, v4] ∧ ds = [d0, d1, d2, d3, d4] ∧ ps = p0 ++ p1 ++ p2 ++ p3 ++ p4 ∧ DataW.Trod enc P w base spare held t0 v0 d0 p0 ∧ DataW.Trod enc P w base spare held t1 v1 d1 p1 ∧ DataW.Trod enc P w base spare held t2 v2 d2 p2 ∧ DataW.Trod enc P w base spare held t3 v3 d3 p3 ∧ DataW.Trod enc P w base spare held t4 v4 d4 p4 := by
  obtain ⟨v0, vs0, d0, ds0, p0, q0, hargs, rfl, rfl, h0, r0⟩ := trodAll_cons h
  obtain ⟨v1, vs1, d1, ds1, p1, q1, rfl, rfl, rfl, h1, r1⟩ := trodAll_cons r0
  obtain ⟨v2, vs2, d2, ds2, p2, q2, rfl, rfl, rfl, h2, r2⟩ := trodAll_cons r1
  obtain ⟨v3, vs3, d3, ds3, p3, q3, rfl, rfl, rfl, h3, r3⟩ := trodAll_cons r2
  obtain ⟨v4, vs4, d4, ds4, p4, q4, rfl, rfl, rfl, h4, r4⟩ := trodAll_cons r3
  obtain ⟨rfl, rfl, rfl⟩ := trodAll_nil r4
  exact ⟨v0, v1, v2, v3, v4, d0, d1, d2, d3, d4, p0, p1, p2, p3, p4, by cases args; simp_all, rfl, by simp, h0, h1, h2, h3, h4⟩
theorem trodAll_6 {t0 t1 t2 t3 t4 t5 : TypeId} {args : Array Value} {ds : List (DataW H)} {ps : List MemPlace} (h : DataW.TrodAll enc P w base spare held [t0, t1, t2, t3, t4, t5] args.toList ds ps) :
    ∃ v0 v1 v2 v3 v4 v5 d0 d1 d2 d3 d4 d5 p0 p1 p2 p3 p4 p5, args = #[v0, v1, v2, v3, v4, v5] ∧ ds = [d0, d1, d2, d3, d4, d5] ∧ ps = p0 ++ p1 ++ p2 ++ p3 ++ p4 ++ p5 ∧ DataW.Trod enc P w base spare held t0 v0 d0 p0 ∧ DataW.Trod enc P w base spare held t1 v1 d1 p1 ∧ DataW.Trod enc P w base spare held t2 v2 d2 p2 ∧ DataW.Trod enc P w base spare held t3 v3 d3 p3 ∧ DataW.Trod enc P w base spare held t4 v4 d4 p4 ∧ DataW.Trod enc P w base spare held t5 v5 d5 p5 := by
  obtain ⟨v0, vs0, d0, ds0, p0, q0, hargs, rfl, rfl, h0, r0⟩ := trodAll_cons h
  obtain ⟨v1, vs1, d1, ds1, p1, q1, rfl, rfl, rfl, h1, r1⟩ := trodAll_cons r0
  obtain ⟨v2, vs2, d2, ds2, p2, q2, rfl, rfl, rfl, h2, r2⟩ := trodAll_cons r1
  obtain ⟨v3, vs3, d3, ds3, p3, q3, rfl, rfl, rfl, h3, r3⟩ := trodAll_cons r2
  obtain ⟨v4, vs4, d4, ds4, p4, q4, rfl, rfl, rfl, h4, r4⟩ := trodAll_cons r3
  obtain ⟨v5, vs5, d5, ds5, p5, q5, rfl, rfl, rfl, h5, r5⟩ := trodAll_cons r4
  obtain ⟨rfl, rfl, rfl⟩ := trodAll_nil r5
  exact ⟨v0, v1, v2, v3, v4, v5, d0, d1, d2, d3, d4, d5, p0, p1, p2, p3, p4, p5, by cases args; simp_all, rfl, by simp, h0, h1, h2, h3, h4, h5⟩
end
end Go.Proofs.Ytbcdpibcieadlaa

/- An argument opened: a float. No condition. -/
namespace Go.Proofs.Ytbcdpibcieadlaa
open Go Go.RowKit Go.ChangeShapes Go.WideShapes Go.Deep

section
variable {H : Type} {enc : TypeId × Value → H} {P : Program} {w : World} {base : Nat} {spare : Nat → Bool} {held : Bool}
theorem open_f64w {r : Reach} {b0 : Nat} {t : TypeId} {v : Value} {d : DataW H} {ps : List MemPlace} (ht : P.underlying t = some (.float .f64)) (hval : Value.okWide P w r b0 t v) (hd : DataW.Trod enc P w base spare held t v d ps) :
    ∃ n, v = .float .f64 n ∧ d = .lit (.float .f64 n) ∧ ps = [] ∧ n < 18446744073709551616 := by
  obtain ⟨n, rfl⟩ : ∃ n, v = .float .f64 n := by
    simp only [Value.okWide, ht, Cell.okWide] at hval
    cases v <;> simp_all [Cell.ok]
  obtain ⟨fuel, hf⟩ := hd
  obtain ⟨n', h, hx, hw⟩ := trod_f64 ht hf
  simp [Value.cells] at h
  subst h
  simp only [Prod.mk.injEq] at hx
  exact ⟨n, rfl, hx.1, hx.2, hw⟩
end
end Go.Proofs.Ytbcdpibcieadlaa
