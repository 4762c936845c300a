/- 'QlPairs': the law's call (its region 4 printed by gen_qpr.py). No condition but on lengths. -/
import Derived.Test.YtbmnlohaidbmdaaQz
import Derived.Test.YtbmnlohaidbmdaaNq11
namespace Go.Proofs.Ytbmnlohaidbmdaa
open Go Go.RowKit
set_option maxRecDepth 1000000

theorem run_mk12 (n : Nat) (h : n ≤ 262144) (w : World) : (Instr.makeSlice 22 (.int .i64 (n : Int)) (.int .i64 (n : Int))).run Try.prog w = .ok (.slice (some ⟨w.heap.size, 0, none⟩) n n) (w.alloc (.cells (List.replicate n (Value.float .f64 0)).toArray 42)) := by
  have := run_New n 1 (by omega) w
  simpa using this
theorem fls_rep (w : World) (n : Nat) : Fls (w.alloc (.cells (List.replicate n (Value.float .f64 0)).toArray 42)) (some ⟨w.heap.size, 0, none⟩) (List.replicate n 0) :=
  (Flb.ofBox (zs := List.replicate n 0) (by rw [List.map_replicate]; exact Box.newA w _ _ rfl) (fun x hx => by rw [(List.mem_replicate.1 hx).2]; kernel_rfl)).fls
/-- Floats, and a matrix's own cells, lie apart. -/
theorem Fls.putM {W : World} {a b : Option Addr} {l : List Nat} {P n c : Nat} {x y : Int} (h : Fls W a l) (hb : Box W P [.int .i64 x, .int .i64 y, .slice b n c]) (v0 v1 v2 : Value) : Fls (((W.setCell ⟨P, 0, none⟩ v0).setCell ⟨P, 1, none⟩ v1).setCell ⟨P, 2, none⟩ v2) a l := fun hz => by
  obtain ⟨bb, o, e, hlt, hc⟩ := h hz
  have hne : bb ≠ P := by
    intro h1
    subst h1
    obtain ⟨s, hs⟩ := hc 0 (l.getD 0 0) (by cases l with | nil => exact absurd rfl hz | cons x l => rfl)
    rw [hb.cell] at hs
    generalize o + 0 = j at hs
    rcases j with _ | _ | _ | j <;> simp at hs
  have hB : Bel W.heap.size P W (((W.setCell ⟨P, 0, none⟩ v0).setCell ⟨P, 1, none⟩ v1).setCell ⟨P, 2, none⟩ v2) := (((Bel.refl _ _ W).set 0 v0).set 1 v1).set 2 v2
  refine ⟨bb, o, e, Nat.lt_of_lt_of_le hlt hB.size, fun i v hi => ?_⟩
  obtain ⟨s, hs⟩ := hc i v hi
  refine ⟨s, ?_⟩
  rw [← hs]
  unfold World.cell?
  rw [show (((W.setCell ⟨P, 0, none⟩ v0).setCell ⟨P, 1, none⟩ v1).setCell ⟨P, 2, none⟩ v2).heap[(⟨bb, o + i, none⟩ : Addr).block]? = W.heap[(⟨bb, o + i, none⟩ : Addr).block]? from hB.block bb hlt hne]
theorem pairs_sol (w : World) (da ea za : Option Addr) (d : List Nat) (dc ec zc k : Nat) (hd : Fls w da d) (he : Fls w ea (List.replicate k 0)) (hz : Fls w za (oneL d.length d.length)) (hda : da = none → d = []) (hea : ea ≠ none) (hza : za ≠ none) (hW : Words d) (hn : d.length ≤ 512) (hk : k = d.length - 1) (hf : d.all ffin = true) :
    Calls Try.prog 10 #[.agg #[.slice da d.length dc, .slice ea k ec], .agg #[.int .i64 d.length, .int .i64 d.length, .slice za (d.length * d.length) zc]] w fun x w' => ∃ a cap za' zc', x = .returned (.tuple #[.slice a d.length cap, .agg #[.int .i64 d.length, .int .i64 d.length, .slice za' (d.length * d.length) zc'], .int .i64 0, .int .i64 0]) ∧ Fls w' a (sortQ d.length d.length d (oneL d.length d.length) d.length).1 ∧ Fls w' za' (sortQ d.length d.length d (oneL d.length d.length) d.length).2 ∧ Below w.heap.size w w' := by
  have f0 : ffin 0 = true := by kernel_rfl
  have f1 : ffin 4607182418800017408 = true := by kernel_rfl
  have fa : fabs 0 = 0 := by kernel_rfl
  have hol := oneL_len d.length d.length
  have hkl : (List.replicate k 0).length = k := List.length_replicate
  have hall : ∀ n, (oneL n n).all ffin = true := fun n => by
    rw [List.all_eq_true]
    intro x hx
    have : ∀ i, x ∈ oneL n i → x = 0 ∨ x = 4607182418800017408 := by
      intro i
      induction i with
      | zero => intro h; unfold oneL at h; exact .inl (List.eq_of_mem_replicate h)
      | succ i ih =>
        intro h; unfold oneL at h
        rcases List.mem_or_eq_of_mem_set h with h | h
        · exact ih h
        · exact .inr h
    rcases this n hx with h | h
    · rw [h]; exact f0
    · rw [h]; exact f1
  have hone : Words (oneL d.length d.length) := fun x hx => by
    have h1 := List.all_eq_true.1 (hall d.length) x hx
    have : ∀ i, x ∈ oneL d.length i → x = 0 ∨ x = 4607182418800017408 := by
      intro i
      induction i with
      | zero => intro h; unfold oneL at h; exact .inl (List.eq_of_mem_replicate h)
      | succ i ih =>
        intro h; unfold oneL at h
        rcases List.mem_or_eq_of_mem_set h with h | h
        · exact ih h
        · exact .inr h
    rcases this d.length hx with h | h <;> rw [h] <;> decide
  have hg : ∀ i, i < d.length → ffin (d.getD i 0) = true := fun i hi => by
    rw [List.all_eq_true] at hf
    refine hf _ ?_
    rw [List.getD_eq_getElem?_getD, List.getElem?_eq_getElem hi]
    exact List.getElem_mem _
  have hz0 : ∀ i, fabs ((List.replicate k 0 ++ [0]).getD i 0) = 0 := fun i => by
    have : (List.replicate k 0 ++ [0]).getD i 0 = 0 := by
      rw [List.getD_eq_getElem?_getD]
      cases h : (List.replicate k 0 ++ [0])[i]? with
      | none => rfl
      | some v =>
        have hv := List.mem_of_getElem? h
        rw [List.mem_append, List.mem_singleton] at hv
        rcases hv with hv | hv
        · exact List.eq_of_mem_replicate hv
        · exact hv
    rw [this]; exact fa
  have hS := Solve_ok w da ea za d (List.replicate k 0) (oneL d.length d.length) dc ec zc d.length hd he hz hda (fun h => absurd h hea) (fun h => absurd h hza) hW (fun x hx => by rw [List.eq_of_mem_replicate hx]; decide) hone hn hn (by rw [hkl]; exact hk) hol hf (by rw [List.all_eq_true]; intro x hx; rw [List.eq_of_mem_replicate hx]; exact f0) (hall d.length)
  rw [hkl, hol] at hS
  refine hS.mono ?_
  intro x w' h
  unfold SolveP SolveQ at h
  rw [solQ_zero (x := ⟨d, List.replicate k 0 ++ [0], oneL d.length d.length⟩) hg hz0, hol] at h
  rw [if_pos ⟨rfl, hf⟩] at h
  obtain ⟨a, cap, za', zc', rfl, hF, hG, hb⟩ := h
  exact ⟨a, cap, za', zc', rfl, hF, hG, hb⟩
set_option maxHeartbeats 32000000 in
theorem qlPairs_any (w : World) (a : Option Addr) (d : List Nat) (dc : Nat) (hd : Fls w a d) (ha : a = none → d = []) (hW : Words d) (hl : d.length ≤ maxLen) :
    Calls Try.prog 6 #[.slice a d.length dc] w fun x w' => x = .returned (.bool true) ∧ Below w.heap.size w w' := by
  have HFi := Lib.hid (fun W (h : Below w.heap.size w W) => RFin12 W a d dc (hd.below h) hl)
  unfold maxLen at hl
  by_cases h1 : 24 < d.length
  · have t1 : decide ((24 : Int) < (d.length : Int)) = true := decide_eq_true (by omega)
    have t1' : decide (24 < d.length) = true := decide_eq_true h1
    clear HFi h1 hd hW
    go_enter Try.func6, Try.ntmps6
    go_wp2_with fail
    refine (known12_any _).mono ?_
    rintro x w1 ⟨rfl, hb1⟩
    go_wp2
    go_ret
    exact ⟨rfl, hb1⟩
  have t1 : decide ((24 : Int) < (d.length : Int)) = false := decide_eq_false (by omega)
  have t1' : decide (24 < d.length) = false := decide_eq_false h1
  by_cases h2 : d.length = 0
  · have t2 : ((d.length : Int) == 0) = true := by rw [beq_iff_eq]; omega
    clear HFi h1 hd hW h2
    go_enter Try.func6, Try.ntmps6
    go_wp2_with fail
    refine (known12_any _).mono ?_
    rintro x w1 ⟨rfl, hb1⟩
    go_wp2
    go_ret
    exact ⟨rfl, hb1⟩
  have t2 : ((d.length : Int) == 0) = false := by rw [beq_eq_false_iff_ne]; omega
  cases hf : d.all ffin
  · have HF := Lib.hid (HFi.out w (Below.refl _ _))
    rw [hf] at HF
    clear HFi h1 hd hW h2 hf
    go_enter Try.func6, Try.ntmps6
    go_wp2_with fail
    refine HF.out.mono ?_
    rintro x w1 ⟨rfl, hb1⟩
    dsimp only
    go_wp2_with fail
    refine (known12_any _).mono ?_
    rintro x w2 ⟨rfl, hb2⟩
    go_wp2
    go_ret
    exact ⟨rfl, below_step hb1 hb1.size hb2⟩
  have HF := Lib.hid (HFi.out w (Below.refl _ _))
  rw [hf] at HF
  obtain ⟨k, hk⟩ : ∃ k, k = d.length - 1 := ⟨_, rfl⟩
  have hln : d.length ≤ 24 := by omega
  have hl0 : 1 ≤ d.length := by omega
  have HPS := pairs_spec (d := d) (fun i hi => by
    rw [List.all_eq_true] at hf
    refine hf _ ?_
    rw [List.getD_eq_getElem?_getD, List.getElem?_eq_getElem hi]
    exact List.getElem_mem _)
  have HLN := sortQ_len d.length d.length d (oneL d.length d.length) d.length
  rw [oneL_len] at HLN
  have HS0 := Lib.hid (fun W (h : Below w.heap.size w W) ea za ec zc he hz hea hza => pairs_sol W a ea za d dc ec zc k (hd.below h) he hz ha hea hza hW (by omega) hk hf)
  generalize (sortQ d.length d.length d (oneL d.length d.length) d.length).1 = S1 at *
  generalize (sortQ d.length d.length d (oneL d.length d.length) d.length).2 = S2 at *
  have HP := Lib.hid HPS
  have HLn := Lib.hid HLN
  have HO := Lib.hid (fun W => One10 W d.length (by omega))
  have HD := Lib.hid hd
  have HNan := Lib.hid (show ∀ i, i < d.length → isnan (d.getD i 0) = false from fun i hi => isnan_ffinq (by
    rw [List.all_eq_true] at hf
    refine hf _ ?_
    rw [List.getD_eq_getElem?_getD, List.getElem?_eq_getElem hi]
    exact List.getElem_mem _))
  clear HFi hd hW hf HPS HLN ha
  go_enter Try.func6, Try.ntmps6
  go_wp2_with fail
  refine HF.out.mono ?_
  rintro x w1 ⟨rfl, hb1⟩
  have HB := Lib.hid hb1
  clear hb1 HF
  dsimp only
  go_upto_region 4 with (fail)
  have hdr : Below w1.heap.size w1 w1.drew := below_drewN 1 (Below.refl _ w1)
  have HB := Lib.hid (below_step HB.out HB.out.size hdr)
  have hw : wrap64 ((d.length : Int) - 1) = (k : Int) := by unfold wrap64; omega
  have hw' : IntKind.i64.wrap ((d.length : Int) - 1) = (k : Int) := by rw [IntKind.wrap_i64]; omega
  have qM := fun W => run_mk12 k (by omega) W
  go_cut [4, 5, 6, 7] from 25 to 38 (fun s4 s5 s6 s7 wx => ∃ (a7 : Option Addr) (c7 : Nat) (z7 : Option Addr) (zc7 PM : Nat), s4 = .slice a7 d.length c7 ∧ s5 = .pointer (some ⟨PM, 0, none⟩) ∧ s6 = .int .i64 0 ∧ s7 = .int .i64 0 ∧ Box wx PM [.int .i64 d.length, .int .i64 d.length, .slice z7 (d.length * d.length) zc7] ∧ Fls wx a7 S1 ∧ Fls wx z7 S2 ∧ Below w.heap.size w wx)
  case first =>
    clear hdr
    refine wp_region_many 17 40 [(3, 13), (3, 6), (0, 0), (0, 1), (0, 2), (0, 5), (1, 3), (0, 4), (2, 6), (1, 7), (0, 8), (0, 9), (0, 10), (0, 11), (0, 12), (2, 13), (1, 14), (1, 15), (1, 16)] (fun _ => Hid True) (by kernel_rfl) (by kernel_rfl) (Lib.hid trivial) ?_
    have HS := Lib.hid (fun V (h : Below w1.drew.heap.size w1.drew V) ea za ec zc he hz hea hza => HS0.out V (below_step HB.out HB.out.size h) ea za ec zc he hz hea hza)
    have hbW := Below.refl w1.drew.heap.size w1.drew
    obtain ⟨V, hV⟩ : ∃ V, V = w1.drew := ⟨_, rfl⟩
    obtain ⟨V0, hV0⟩ : ∃ V, V = w1.drew := ⟨_, rfl⟩
    rw [← hV0] at HB HS hbW
    have hbW : Below V0.heap.size V0 V := by rw [hV, ← hV0]; exact hbW
    rw [← hV]
    clear hV hV0 t1 t1' t2 h1 h2 hk
-- GEN
    refine fm_from ?_
    refine fm_from ?_
    refine fm_take (v := ?_) rfl rfl ?_ ?_; rotate_left; (next => (intro w' hSw; go_simp; (try with_reducible rfl))); (simp only [Act.put, List.setIfInBounds_toArray, List.set_cons_zero, List.set_cons_succ])
    refine fm_take (v := ?_) rfl rfl ?_ ?_; rotate_left; (next => (intro w' hSw; go_simp; (try with_reducible rfl))); (simp only [Act.put, List.setIfInBounds_toArray, List.set_cons_zero, List.set_cons_succ])
    refine fm_take (v := ?_) rfl rfl ?_ ?_; rotate_left; (next => (intro w' hSw; go_simp; (try with_reducible rfl))); (simp only [Act.put, List.setIfInBounds_toArray, List.set_cons_zero, List.set_cons_succ])
    refine fm_take (v := ?_) rfl rfl ?_ ?_; rotate_left; (next => (intro w' hSw; go_simp; (try with_reducible rfl))); (simp only [Act.put, List.setIfInBounds_toArray, List.set_cons_zero, List.set_cons_succ])
    refine fm_one2 rfl ?_ ?_ ?_
    · refine opW_take rfl rfl ?_
      go_simp
      have hb : Below V.heap.size V (V.alloc (.cells (Array.replicate k (Value.float .f64 0)) 42)) := (Below.refl _ _).alloc (Nat.le_refl _) _
      have hE := fls_rep V k
      rw [List.toArray_replicate] at hE
      replace hbW := below_step hbW hbW.size hb
      clear hb
      generalize V.alloc (.cells (Array.replicate k (Value.float .f64 0)) 42) = V1 at *
      generalize V.heap.size = be at *
      refine ⟨Lib.hid trivial, ?_⟩
      refine fm_take (v := ?_) rfl rfl ?_ ?_; rotate_left; (next => (intro w' hSw; go_simp; (try with_reducible rfl))); (simp only [Act.put, List.setIfInBounds_toArray, List.set_cons_zero, List.set_cons_succ])
      refine fm_now2 rfl rfl ?_ ?_
      · refine opW_take rfl rfl ?_
        go_simp
        go_at_call 17
        refine (HO.out V1).mono ?_
        rintro r V2 ⟨a3, zb3, c3, rfl, hZ, hza, hb⟩
        replace hZ := hZ.fls
        replace hbW := below_step hbW hbW.size hb
        replace hE := hE.below hb
        clear hb
        refine ⟨Lib.hid trivial, ?_⟩
        refine fm_skip rfl ?_
        refine fm_one1 ?_ ?_
        · refine opW_take rfl rfl ?_
          go_simp
          go_at_call 10
          refine (HS.out V2 hbW _ _ k c3 hE hZ (fun h => by cases h) hza).mono ?_
          rintro r V3 ⟨a7, c7, z7, zc7, rfl, hS1, hS2, hb⟩
          replace hbW := below_step hbW hbW.size hb
          replace hE := hE.below hb
          replace hZ := hZ.below hb
          clear hb
          refine ⟨Lib.hid trivial, ?_⟩
          refine fm_take (v := ?_) rfl rfl ?_ ?_; rotate_left; (next => (intro w' hSw; go_simp; (try with_reducible rfl))); (simp only [Act.put, List.setIfInBounds_toArray, List.set_cons_zero, List.set_cons_succ])
          refine fm_take (v := ?_) rfl rfl ?_ ?_; rotate_left; (next => (intro w' hSw; go_simp; (try with_reducible rfl))); (simp only [Act.put, List.setIfInBounds_toArray, List.set_cons_zero, List.set_cons_succ])
          refine fm_take (v := ?_) rfl rfl ?_ ?_; rotate_left; (next => (intro w' hSw; go_simp; (try with_reducible rfl))); (simp only [Act.put, List.setIfInBounds_toArray, List.set_cons_zero, List.set_cons_succ])
          refine fm_take (v := ?_) rfl rfl ?_ ?_; rotate_left; (next => (intro w' hSw; go_simp; (try with_reducible rfl))); (simp only [Act.put, List.setIfInBounds_toArray, List.set_cons_zero, List.set_cons_succ])
          refine fm_take (v := ?_) rfl rfl ?_ ?_; rotate_left; (next => (intro w' hSw; go_simp; (try with_reducible rfl))); (simp only [Act.put, List.setIfInBounds_toArray, List.set_cons_zero, List.set_cons_succ])
          refine fm_now ?_
          refine opW_take rfl rfl ?_
          go_simp
          have hb : Below V3.heap.size V3 (V3.alloc (.cells #[.int .i64 0, .int .i64 0, .slice none 0 0] 26)) := (Below.refl _ _).alloc (Nat.le_refl _) _
          have hM := Box.newA V3 [.int .i64 0, .int .i64 0, .slice none 0 0] 26 rfl
          have hPM := hbW.size
          replace hbW := below_step hbW hbW.size hb
          replace hE := hE.below hb
          replace hZ := hZ.below hb
          replace hS1 := hS1.below hb
          replace hS2 := hS2.below hb
          clear hb
          generalize V3.alloc (.cells #[.int .i64 0, .int .i64 0, .slice none 0 0] 26) = V4 at *
          generalize V3.heap.size = PM at *
          refine ⟨Lib.hid trivial, ?_⟩
          refine fm_skip rfl ?_
          refine fm_one ?_
          refine opW_take rfl rfl ?_
          go_simp
          refine ⟨Lib.hid trivial, ?_⟩
          refine fm_one ?_
          refine opW_take rfl rfl ?_
          obtain ⟨q1, q2, q3⟩ := hM.facts
          go_simp
          have hF1 := hS1.putM hM (.int .i64 (d.length : Nat)) (.int .i64 (d.length : Nat)) (.slice z7 (d.length * d.length) zc7)
          have hF2 := hS2.putM hM (.int .i64 (d.length : Nat)) (.int .i64 (d.length : Nat)) (.slice z7 (d.length * d.length) zc7)
          have hMM := hM.put3 (.int .i64 (d.length : Nat)) (.int .i64 (d.length : Nat)) (.slice z7 (d.length * d.length) zc7)
          have hBB := below_put3 hbW hPM (.int .i64 (d.length : Nat)) (.int .i64 (d.length : Nat)) (.slice z7 (d.length * d.length) zc7)
          have HE := Lib.hid (show _ ∧ _ ∧ _ ∧ _ from ⟨hMM, hF1, hF2, hBB⟩)
          clear hF1 hF2 hMM hBB hM hS1 hS2 hbW q1 q2 q3 hE hZ
          generalize (((V4.setCell ⟨PM, 0, none⟩ (.int .i64 (d.length : Nat))).setCell ⟨PM, 1, none⟩ (.int .i64 (d.length : Nat))).setCell ⟨PM, 2, none⟩ (.slice z7 (d.length * d.length) zc7)) = V6 at *
          refine ⟨Lib.hid trivial, ?_⟩
          refine fm_one ?_
          refine opW_take rfl rfl ?_
          go_simp
          refine ⟨Lib.hid trivial, ?_⟩
          refine fm_nil ?_
          go_simp
          go_wp2
          refine NoPanic.normal ?_
          go_wp2_with fail
          go_meet
          case rel => exact ⟨a7, c7, z7, zc7, PM, rfl, rfl, rfl, rfl, HE.out.1, HE.out.2.1, HE.out.2.2.1, below_step HB.out HB.out.size HE.out.2.2.2⟩
        · refine opW_take rfl rfl ?_
          go_simp
          have hb : Below V2.heap.size V2 (V2.alloc (.cells #[.int .i64 0, .int .i64 0, .slice none 0 0] 26)) := (Below.refl _ _).alloc (Nat.le_refl _) _
          have hM := Box.newA V2 [.int .i64 0, .int .i64 0, .slice none 0 0] 26 rfl
          have hPM := hbW.size
          replace hbW := below_step hbW hbW.size hb
          replace hE := hE.below hb
          replace hZ := hZ.below hb
          clear hb
          generalize V2.alloc (.cells #[.int .i64 0, .int .i64 0, .slice none 0 0] 26) = V8 at *
          generalize V2.heap.size = PM at *
          refine ⟨Lib.hid trivial, ?_⟩
          refine fm_one ?_
          refine opW_take rfl rfl ?_
          go_simp
          go_at_call 10
          refine (HS.out V8 hbW _ _ k c3 hE hZ (fun h => by cases h) hza).mono ?_
          rintro r V9 ⟨a7, c7, z7, zc7, rfl, hS1, hS2, hb⟩
          replace hbW := below_step hbW hbW.size hb
          replace hE := hE.below hb
          replace hZ := hZ.below hb
          replace hM := hM.below hb
          clear hb
          refine ⟨Lib.hid trivial, ?_⟩
          refine fm_take (v := ?_) rfl rfl ?_ ?_; rotate_left; (next => (intro w' hSw; go_simp; (try with_reducible rfl))); (simp only [Act.put, List.setIfInBounds_toArray, List.set_cons_zero, List.set_cons_succ])
          refine fm_take (v := ?_) rfl rfl ?_ ?_; rotate_left; (next => (intro w' hSw; go_simp; (try with_reducible rfl))); (simp only [Act.put, List.setIfInBounds_toArray, List.set_cons_zero, List.set_cons_succ])
          refine fm_take (v := ?_) rfl rfl ?_ ?_; rotate_left; (next => (intro w' hSw; go_simp; (try with_reducible rfl))); (simp only [Act.put, List.setIfInBounds_toArray, List.set_cons_zero, List.set_cons_succ])
          refine fm_take (v := ?_) rfl rfl ?_ ?_; rotate_left; (next => (intro w' hSw; go_simp; (try with_reducible rfl))); (simp only [Act.put, List.setIfInBounds_toArray, List.set_cons_zero, List.set_cons_succ])
          refine fm_take (v := ?_) rfl rfl ?_ ?_; rotate_left; (next => (intro w' hSw; go_simp; (try with_reducible rfl))); (simp only [Act.put, List.setIfInBounds_toArray, List.set_cons_zero, List.set_cons_succ])
          refine fm_skip rfl ?_
          refine fm_one ?_
          refine opW_take rfl rfl ?_
          go_simp
          refine ⟨Lib.hid trivial, ?_⟩
          refine fm_one ?_
          refine opW_take rfl rfl ?_
          obtain ⟨q1, q2, q3⟩ := hM.facts
          go_simp
          have hF1 := hS1.putM hM (.int .i64 (d.length : Nat)) (.int .i64 (d.length : Nat)) (.slice z7 (d.length * d.length) zc7)
          have hF2 := hS2.putM hM (.int .i64 (d.length : Nat)) (.int .i64 (d.length : Nat)) (.slice z7 (d.length * d.length) zc7)
          have hMM := hM.put3 (.int .i64 (d.length : Nat)) (.int .i64 (d.length : Nat)) (.slice z7 (d.length * d.length) zc7)
          have hBB := below_put3 hbW hPM (.int .i64 (d.length : Nat)) (.int .i64 (d.length : Nat)) (.slice z7 (d.length * d.length) zc7)
          have HE := Lib.hid (show _ ∧ _ ∧ _ ∧ _ from ⟨hMM, hF1, hF2, hBB⟩)
          clear hF1 hF2 hMM hBB hM hS1 hS2 hbW q1 q2 q3 hE hZ
          generalize (((V9.setCell ⟨PM, 0, none⟩ (.int .i64 (d.length : Nat))).setCell ⟨PM, 1, none⟩ (.int .i64 (d.length : Nat))).setCell ⟨PM, 2, none⟩ (.slice z7 (d.length * d.length) zc7)) = V11 at *
          refine ⟨Lib.hid trivial, ?_⟩
          refine fm_one ?_
          refine opW_take rfl rfl ?_
          go_simp
          refine ⟨Lib.hid trivial, ?_⟩
          refine fm_nil ?_
          go_simp
          go_wp2
          refine NoPanic.normal ?_
          go_wp2_with fail
          go_meet
          case rel => exact ⟨a7, c7, z7, zc7, PM, rfl, rfl, rfl, rfl, HE.out.1, HE.out.2.1, HE.out.2.2.1, below_step HB.out HB.out.size HE.out.2.2.2⟩
      · refine opW_take rfl rfl ?_
        go_simp
        have hb : Below V1.heap.size V1 (V1.alloc (.cells #[.int .i64 0, .int .i64 0, .slice none 0 0] 26)) := (Below.refl _ _).alloc (Nat.le_refl _) _
        have hM := Box.newA V1 [.int .i64 0, .int .i64 0, .slice none 0 0] 26 rfl
        have hPM := hbW.size
        replace hbW := below_step hbW hbW.size hb
        replace hE := hE.below hb
        clear hb
        generalize V1.alloc (.cells #[.int .i64 0, .int .i64 0, .slice none 0 0] 26) = V13 at *
        generalize V1.heap.size = PM at *
        refine ⟨Lib.hid trivial, ?_⟩
        refine fm_now ?_
        refine opW_take rfl rfl ?_
        go_simp
        go_at_call 17
        refine (HO.out V13).mono ?_
        rintro r V14 ⟨a3, zb3, c3, rfl, hZ, hza, hb⟩
        replace hZ := hZ.fls
        replace hbW := below_step hbW hbW.size hb
        replace hE := hE.below hb
        replace hM := hM.below hb
        clear hb
        refine ⟨Lib.hid trivial, ?_⟩
        refine fm_skip rfl ?_
        refine fm_one ?_
        refine opW_take rfl rfl ?_
        go_simp
        go_at_call 10
        refine (HS.out V14 hbW _ _ k c3 hE hZ (fun h => by cases h) hza).mono ?_
        rintro r V15 ⟨a7, c7, z7, zc7, rfl, hS1, hS2, hb⟩
        replace hbW := below_step hbW hbW.size hb
        replace hE := hE.below hb
        replace hM := hM.below hb
        replace hZ := hZ.below hb
        clear hb
        refine ⟨Lib.hid trivial, ?_⟩
        refine fm_take (v := ?_) rfl rfl ?_ ?_; rotate_left; (next => (intro w' hSw; go_simp; (try with_reducible rfl))); (simp only [Act.put, List.setIfInBounds_toArray, List.set_cons_zero, List.set_cons_succ])
        refine fm_take (v := ?_) rfl rfl ?_ ?_; rotate_left; (next => (intro w' hSw; go_simp; (try with_reducible rfl))); (simp only [Act.put, List.setIfInBounds_toArray, List.set_cons_zero, List.set_cons_succ])
        refine fm_take (v := ?_) rfl rfl ?_ ?_; rotate_left; (next => (intro w' hSw; go_simp; (try with_reducible rfl))); (simp only [Act.put, List.setIfInBounds_toArray, List.set_cons_zero, List.set_cons_succ])
        refine fm_take (v := ?_) rfl rfl ?_ ?_; rotate_left; (next => (intro w' hSw; go_simp; (try with_reducible rfl))); (simp only [Act.put, List.setIfInBounds_toArray, List.set_cons_zero, List.set_cons_succ])
        refine fm_take (v := ?_) rfl rfl ?_ ?_; rotate_left; (next => (intro w' hSw; go_simp; (try with_reducible rfl))); (simp only [Act.put, List.setIfInBounds_toArray, List.set_cons_zero, List.set_cons_succ])
        refine fm_skip rfl ?_
        refine fm_one ?_
        refine opW_take rfl rfl ?_
        go_simp
        refine ⟨Lib.hid trivial, ?_⟩
        refine fm_one ?_
        refine opW_take rfl rfl ?_
        obtain ⟨q1, q2, q3⟩ := hM.facts
        go_simp
        have hF1 := hS1.putM hM (.int .i64 (d.length : Nat)) (.int .i64 (d.length : Nat)) (.slice z7 (d.length * d.length) zc7)
        have hF2 := hS2.putM hM (.int .i64 (d.length : Nat)) (.int .i64 (d.length : Nat)) (.slice z7 (d.length * d.length) zc7)
        have hMM := hM.put3 (.int .i64 (d.length : Nat)) (.int .i64 (d.length : Nat)) (.slice z7 (d.length * d.length) zc7)
        have hBB := below_put3 hbW hPM (.int .i64 (d.length : Nat)) (.int .i64 (d.length : Nat)) (.slice z7 (d.length * d.length) zc7)
        have HE := Lib.hid (show _ ∧ _ ∧ _ ∧ _ from ⟨hMM, hF1, hF2, hBB⟩)
        clear hF1 hF2 hMM hBB hM hS1 hS2 hbW q1 q2 q3 hE hZ
        generalize (((V15.setCell ⟨PM, 0, none⟩ (.int .i64 (d.length : Nat))).setCell ⟨PM, 1, none⟩ (.int .i64 (d.length : Nat))).setCell ⟨PM, 2, none⟩ (.slice z7 (d.length * d.length) zc7)) = V17 at *
        refine ⟨Lib.hid trivial, ?_⟩
        refine fm_one ?_
        refine opW_take rfl rfl ?_
        go_simp
        refine ⟨Lib.hid trivial, ?_⟩
        refine fm_nil ?_
        go_simp
        go_wp2
        refine NoPanic.normal ?_
        go_wp2_with fail
        go_meet
        case rel => exact ⟨a7, c7, z7, zc7, PM, rfl, rfl, rfl, rfl, HE.out.1, HE.out.2.1, HE.out.2.2.1, below_step HB.out HB.out.size HE.out.2.2.2⟩
    · refine opW_take rfl rfl ?_
      go_simp
      go_at_call 17
      refine (HO.out V).mono ?_
      rintro r V19 ⟨a3, zb3, c3, rfl, hZ, hza, hb⟩
      replace hZ := hZ.fls
      replace hbW := below_step hbW hbW.size hb
      clear hb
      refine ⟨Lib.hid trivial, ?_⟩
      refine fm_one1 ?_ ?_
      · refine opW_take rfl rfl ?_
        go_simp
        have hb : Below V19.heap.size V19 (V19.alloc (.cells (Array.replicate k (Value.float .f64 0)) 42)) := (Below.refl _ _).alloc (Nat.le_refl _) _
        have hE := fls_rep V19 k
        rw [List.toArray_replicate] at hE
        replace hbW := below_step hbW hbW.size hb
        replace hZ := hZ.below hb
        clear hb
        generalize V19.alloc (.cells (Array.replicate k (Value.float .f64 0)) 42) = V20 at *
        generalize V19.heap.size = be at *
        refine ⟨Lib.hid trivial, ?_⟩
        refine fm_take (v := ?_) rfl rfl ?_ ?_; rotate_left; (next => (intro w' hSw; go_simp; (try with_reducible rfl))); (simp only [Act.put, List.setIfInBounds_toArray, List.set_cons_zero, List.set_cons_succ])
        refine fm_skip rfl ?_
        refine fm_one1 ?_ ?_
        · refine opW_take rfl rfl ?_
          go_simp
          go_at_call 10
          refine (HS.out V20 hbW _ _ k c3 hE hZ (fun h => by cases h) hza).mono ?_
          rintro r V21 ⟨a7, c7, z7, zc7, rfl, hS1, hS2, hb⟩
          replace hbW := below_step hbW hbW.size hb
          replace hZ := hZ.below hb
          replace hE := hE.below hb
          clear hb
          refine ⟨Lib.hid trivial, ?_⟩
          refine fm_take (v := ?_) rfl rfl ?_ ?_; rotate_left; (next => (intro w' hSw; go_simp; (try with_reducible rfl))); (simp only [Act.put, List.setIfInBounds_toArray, List.set_cons_zero, List.set_cons_succ])
          refine fm_take (v := ?_) rfl rfl ?_ ?_; rotate_left; (next => (intro w' hSw; go_simp; (try with_reducible rfl))); (simp only [Act.put, List.setIfInBounds_toArray, List.set_cons_zero, List.set_cons_succ])
          refine fm_take (v := ?_) rfl rfl ?_ ?_; rotate_left; (next => (intro w' hSw; go_simp; (try with_reducible rfl))); (simp only [Act.put, List.setIfInBounds_toArray, List.set_cons_zero, List.set_cons_succ])
          refine fm_take (v := ?_) rfl rfl ?_ ?_; rotate_left; (next => (intro w' hSw; go_simp; (try with_reducible rfl))); (simp only [Act.put, List.setIfInBounds_toArray, List.set_cons_zero, List.set_cons_succ])
          refine fm_take (v := ?_) rfl rfl ?_ ?_; rotate_left; (next => (intro w' hSw; go_simp; (try with_reducible rfl))); (simp only [Act.put, List.setIfInBounds_toArray, List.set_cons_zero, List.set_cons_succ])
          refine fm_now ?_
          refine opW_take rfl rfl ?_
          go_simp
          have hb : Below V21.heap.size V21 (V21.alloc (.cells #[.int .i64 0, .int .i64 0, .slice none 0 0] 26)) := (Below.refl _ _).alloc (Nat.le_refl _) _
          have hM := Box.newA V21 [.int .i64 0, .int .i64 0, .slice none 0 0] 26 rfl
          have hPM := hbW.size
          replace hbW := below_step hbW hbW.size hb
          replace hZ := hZ.below hb
          replace hE := hE.below hb
          replace hS1 := hS1.below hb
          replace hS2 := hS2.below hb
          clear hb
          generalize V21.alloc (.cells #[.int .i64 0, .int .i64 0, .slice none 0 0] 26) = V22 at *
          generalize V21.heap.size = PM at *
          refine ⟨Lib.hid trivial, ?_⟩
          refine fm_skip rfl ?_
          refine fm_one ?_
          refine opW_take rfl rfl ?_
          go_simp
          refine ⟨Lib.hid trivial, ?_⟩
          refine fm_one ?_
          refine opW_take rfl rfl ?_
          obtain ⟨q1, q2, q3⟩ := hM.facts
          go_simp
          have hF1 := hS1.putM hM (.int .i64 (d.length : Nat)) (.int .i64 (d.length : Nat)) (.slice z7 (d.length * d.length) zc7)
          have hF2 := hS2.putM hM (.int .i64 (d.length : Nat)) (.int .i64 (d.length : Nat)) (.slice z7 (d.length * d.length) zc7)
          have hMM := hM.put3 (.int .i64 (d.length : Nat)) (.int .i64 (d.length : Nat)) (.slice z7 (d.length * d.length) zc7)
          have hBB := below_put3 hbW hPM (.int .i64 (d.length : Nat)) (.int .i64 (d.length : Nat)) (.slice z7 (d.length * d.length) zc7)
          have HE := Lib.hid (show _ ∧ _ ∧ _ ∧ _ from ⟨hMM, hF1, hF2, hBB⟩)
          clear hF1 hF2 hMM hBB hM hS1 hS2 hbW q1 q2 q3 hE hZ
          generalize (((V22.setCell ⟨PM, 0, none⟩ (.int .i64 (d.length : Nat))).setCell ⟨PM, 1, none⟩ (.int .i64 (d.length : Nat))).setCell ⟨PM, 2, none⟩ (.slice z7 (d.length * d.length) zc7)) = V24 at *
          refine ⟨Lib.hid trivial, ?_⟩
          refine fm_one ?_
          refine opW_take rfl rfl ?_
          go_simp
          refine ⟨Lib.hid trivial, ?_⟩
          refine fm_nil ?_
          go_simp
          go_wp2
          refine NoPanic.normal ?_
          go_wp2_with fail
          go_meet
          case rel => exact ⟨a7, c7, z7, zc7, PM, rfl, rfl, rfl, rfl, HE.out.1, HE.out.2.1, HE.out.2.2.1, below_step HB.out HB.out.size HE.out.2.2.2⟩
        · refine opW_take rfl rfl ?_
          go_simp
          have hb : Below V20.heap.size V20 (V20.alloc (.cells #[.int .i64 0, .int .i64 0, .slice none 0 0] 26)) := (Below.refl _ _).alloc (Nat.le_refl _) _
          have hM := Box.newA V20 [.int .i64 0, .int .i64 0, .slice none 0 0] 26 rfl
          have hPM := hbW.size
          replace hbW := below_step hbW hbW.size hb
          replace hZ := hZ.below hb
          replace hE := hE.below hb
          clear hb
          generalize V20.alloc (.cells #[.int .i64 0, .int .i64 0, .slice none 0 0] 26) = V26 at *
          generalize V20.heap.size = PM at *
          refine ⟨Lib.hid trivial, ?_⟩
          refine fm_one ?_
          refine opW_take rfl rfl ?_
          go_simp
          go_at_call 10
          refine (HS.out V26 hbW _ _ k c3 hE hZ (fun h => by cases h) hza).mono ?_
          rintro r V27 ⟨a7, c7, z7, zc7, rfl, hS1, hS2, hb⟩
          replace hbW := below_step hbW hbW.size hb
          replace hZ := hZ.below hb
          replace hE := hE.below hb
          replace hM := hM.below hb
          clear hb
          refine ⟨Lib.hid trivial, ?_⟩
          refine fm_take (v := ?_) rfl rfl ?_ ?_; rotate_left; (next => (intro w' hSw; go_simp; (try with_reducible rfl))); (simp only [Act.put, List.setIfInBounds_toArray, List.set_cons_zero, List.set_cons_succ])
          refine fm_take (v := ?_) rfl rfl ?_ ?_; rotate_left; (next => (intro w' hSw; go_simp; (try with_reducible rfl))); (simp only [Act.put, List.setIfInBounds_toArray, List.set_cons_zero, List.set_cons_succ])
          refine fm_take (v := ?_) rfl rfl ?_ ?_; rotate_left; (next => (intro w' hSw; go_simp; (try with_reducible rfl))); (simp only [Act.put, List.setIfInBounds_toArray, List.set_cons_zero, List.set_cons_succ])
          refine fm_take (v := ?_) rfl rfl ?_ ?_; rotate_left; (next => (intro w' hSw; go_simp; (try with_reducible rfl))); (simp only [Act.put, List.setIfInBounds_toArray, List.set_cons_zero, List.set_cons_succ])
          refine fm_take (v := ?_) rfl rfl ?_ ?_; rotate_left; (next => (intro w' hSw; go_simp; (try with_reducible rfl))); (simp only [Act.put, List.setIfInBounds_toArray, List.set_cons_zero, List.set_cons_succ])
          refine fm_skip rfl ?_
          refine fm_one ?_
          refine opW_take rfl rfl ?_
          go_simp
          refine ⟨Lib.hid trivial, ?_⟩
          refine fm_one ?_
          refine opW_take rfl rfl ?_
          obtain ⟨q1, q2, q3⟩ := hM.facts
          go_simp
          have hF1 := hS1.putM hM (.int .i64 (d.length : Nat)) (.int .i64 (d.length : Nat)) (.slice z7 (d.length * d.length) zc7)
          have hF2 := hS2.putM hM (.int .i64 (d.length : Nat)) (.int .i64 (d.length : Nat)) (.slice z7 (d.length * d.length) zc7)
          have hMM := hM.put3 (.int .i64 (d.length : Nat)) (.int .i64 (d.length : Nat)) (.slice z7 (d.length * d.length) zc7)
          have hBB := below_put3 hbW hPM (.int .i64 (d.length : Nat)) (.int .i64 (d.length : Nat)) (.slice z7 (d.length * d.length) zc7)
          have HE := Lib.hid (show _ ∧ _ ∧ _ ∧ _ from ⟨hMM, hF1, hF2, hBB⟩)
          clear hF1 hF2 hMM hBB hM hS1 hS2 hbW q1 q2 q3 hE hZ
          generalize (((V27.setCell ⟨PM, 0, none⟩ (.int .i64 (d.length : Nat))).setCell ⟨PM, 1, none⟩ (.int .i64 (d.length : Nat))).setCell ⟨PM, 2, none⟩ (.slice z7 (d.length * d.length) zc7)) = V29 at *
          refine ⟨Lib.hid trivial, ?_⟩
          refine fm_one ?_
          refine opW_take rfl rfl ?_
          go_simp
          refine ⟨Lib.hid trivial, ?_⟩
          refine fm_nil ?_
          go_simp
          go_wp2
          refine NoPanic.normal ?_
          go_wp2_with fail
          go_meet
          case rel => exact ⟨a7, c7, z7, zc7, PM, rfl, rfl, rfl, rfl, HE.out.1, HE.out.2.1, HE.out.2.2.1, below_step HB.out HB.out.size HE.out.2.2.2⟩
      · refine opW_take rfl rfl ?_
        go_simp
        have hb : Below V19.heap.size V19 (V19.alloc (.cells #[.int .i64 0, .int .i64 0, .slice none 0 0] 26)) := (Below.refl _ _).alloc (Nat.le_refl _) _
        have hM := Box.newA V19 [.int .i64 0, .int .i64 0, .slice none 0 0] 26 rfl
        have hPM := hbW.size
        replace hbW := below_step hbW hbW.size hb
        replace hZ := hZ.below hb
        clear hb
        generalize V19.alloc (.cells #[.int .i64 0, .int .i64 0, .slice none 0 0] 26) = V31 at *
        generalize V19.heap.size = PM at *
        refine ⟨Lib.hid trivial, ?_⟩
        refine fm_one ?_
        refine opW_take rfl rfl ?_
        go_simp
        have hb : Below V31.heap.size V31 (V31.alloc (.cells (Array.replicate k (Value.float .f64 0)) 42)) := (Below.refl _ _).alloc (Nat.le_refl _) _
        have hE := fls_rep V31 k
        rw [List.toArray_replicate] at hE
        replace hbW := below_step hbW hbW.size hb
        replace hZ := hZ.below hb
        replace hM := hM.below hb
        clear hb
        generalize V31.alloc (.cells (Array.replicate k (Value.float .f64 0)) 42) = V32 at *
        generalize V31.heap.size = be at *
        refine ⟨Lib.hid trivial, ?_⟩
        refine fm_take (v := ?_) rfl rfl ?_ ?_; rotate_left; (next => (intro w' hSw; go_simp; (try with_reducible rfl))); (simp only [Act.put, List.setIfInBounds_toArray, List.set_cons_zero, List.set_cons_succ])
        refine fm_skip rfl ?_
        refine fm_one ?_
        refine opW_take rfl rfl ?_
        go_simp
        go_at_call 10
        refine (HS.out V32 hbW _ _ k c3 hE hZ (fun h => by cases h) hza).mono ?_
        rintro r V33 ⟨a7, c7, z7, zc7, rfl, hS1, hS2, hb⟩
        replace hbW := below_step hbW hbW.size hb
        replace hZ := hZ.below hb
        replace hM := hM.below hb
        replace hE := hE.below hb
        clear hb
        refine ⟨Lib.hid trivial, ?_⟩
        refine fm_take (v := ?_) rfl rfl ?_ ?_; rotate_left; (next => (intro w' hSw; go_simp; (try with_reducible rfl))); (simp only [Act.put, List.setIfInBounds_toArray, List.set_cons_zero, List.set_cons_succ])
        refine fm_take (v := ?_) rfl rfl ?_ ?_; rotate_left; (next => (intro w' hSw; go_simp; (try with_reducible rfl))); (simp only [Act.put, List.setIfInBounds_toArray, List.set_cons_zero, List.set_cons_succ])
        refine fm_take (v := ?_) rfl rfl ?_ ?_; rotate_left; (next => (intro w' hSw; go_simp; (try with_reducible rfl))); (simp only [Act.put, List.setIfInBounds_toArray, List.set_cons_zero, List.set_cons_succ])
        refine fm_take (v := ?_) rfl rfl ?_ ?_; rotate_left; (next => (intro w' hSw; go_simp; (try with_reducible rfl))); (simp only [Act.put, List.setIfInBounds_toArray, List.set_cons_zero, List.set_cons_succ])
        refine fm_take (v := ?_) rfl rfl ?_ ?_; rotate_left; (next => (intro w' hSw; go_simp; (try with_reducible rfl))); (simp only [Act.put, List.setIfInBounds_toArray, List.set_cons_zero, List.set_cons_succ])
        refine fm_skip rfl ?_
        refine fm_one ?_
        refine opW_take rfl rfl ?_
        go_simp
        refine ⟨Lib.hid trivial, ?_⟩
        refine fm_one ?_
        refine opW_take rfl rfl ?_
        obtain ⟨q1, q2, q3⟩ := hM.facts
        go_simp
        have hF1 := hS1.putM hM (.int .i64 (d.length : Nat)) (.int .i64 (d.length : Nat)) (.slice z7 (d.length * d.length) zc7)
        have hF2 := hS2.putM hM (.int .i64 (d.length : Nat)) (.int .i64 (d.length : Nat)) (.slice z7 (d.length * d.length) zc7)
        have hMM := hM.put3 (.int .i64 (d.length : Nat)) (.int .i64 (d.length : Nat)) (.slice z7 (d.length * d.length) zc7)
        have hBB := below_put3 hbW hPM (.int .i64 (d.length : Nat)) (.int .i64 (d.length : Nat)) (.slice z7 (d.length * d.length) zc7)
        have HE := Lib.hid (show _ ∧ _ ∧ _ ∧ _ from ⟨hMM, hF1, hF2, hBB⟩)
        clear hF1 hF2 hMM hBB hM hS1 hS2 hbW q1 q2 q3 hE hZ
        generalize (((V33.setCell ⟨PM, 0, none⟩ (.int .i64 (d.length : Nat))).setCell ⟨PM, 1, none⟩ (.int .i64 (d.length : Nat))).setCell ⟨PM, 2, none⟩ (.slice z7 (d.length * d.length) zc7)) = V35 at *
        refine ⟨Lib.hid trivial, ?_⟩
        refine fm_one ?_
        refine opW_take rfl rfl ?_
        go_simp
        refine ⟨Lib.hid trivial, ?_⟩
        refine fm_nil ?_
        go_simp
        go_wp2
        refine NoPanic.normal ?_
        go_wp2_with fail
        go_meet
        case rel => exact ⟨a7, c7, z7, zc7, PM, rfl, rfl, rfl, rfl, HE.out.1, HE.out.2.1, HE.out.2.2.1, below_step HB.out HB.out.size HE.out.2.2.2⟩
    · refine opW_take rfl rfl ?_
      go_simp
      have hb : Below V.heap.size V (V.alloc (.cells #[.int .i64 0, .int .i64 0, .slice none 0 0] 26)) := (Below.refl _ _).alloc (Nat.le_refl _) _
      have hM := Box.newA V [.int .i64 0, .int .i64 0, .slice none 0 0] 26 rfl
      have hPM := hbW.size
      replace hbW := below_step hbW hbW.size hb
      clear hb
      generalize V.alloc (.cells #[.int .i64 0, .int .i64 0, .slice none 0 0] 26) = V37 at *
      generalize V.heap.size = PM at *
      refine ⟨Lib.hid trivial, ?_⟩
      refine fm_one1 ?_ ?_
      · refine opW_take rfl rfl ?_
        go_simp
        have hb : Below V37.heap.size V37 (V37.alloc (.cells (Array.replicate k (Value.float .f64 0)) 42)) := (Below.refl _ _).alloc (Nat.le_refl _) _
        have hE := fls_rep V37 k
        rw [List.toArray_replicate] at hE
        replace hbW := below_step hbW hbW.size hb
        replace hM := hM.below hb
        clear hb
        generalize V37.alloc (.cells (Array.replicate k (Value.float .f64 0)) 42) = V38 at *
        generalize V37.heap.size = be at *
        refine ⟨Lib.hid trivial, ?_⟩
        refine fm_take (v := ?_) rfl rfl ?_ ?_; rotate_left; (next => (intro w' hSw; go_simp; (try with_reducible rfl))); (simp only [Act.put, List.setIfInBounds_toArray, List.set_cons_zero, List.set_cons_succ])
        refine fm_now ?_
        refine opW_take rfl rfl ?_
        go_simp
        go_at_call 17
        refine (HO.out V38).mono ?_
        rintro r V39 ⟨a3, zb3, c3, rfl, hZ, hza, hb⟩
        replace hZ := hZ.fls
        replace hbW := below_step hbW hbW.size hb
        replace hM := hM.below hb
        replace hE := hE.below hb
        clear hb
        refine ⟨Lib.hid trivial, ?_⟩
        refine fm_skip rfl ?_
        refine fm_one ?_
        refine opW_take rfl rfl ?_
        go_simp
        go_at_call 10
        refine (HS.out V39 hbW _ _ k c3 hE hZ (fun h => by cases h) hza).mono ?_
        rintro r V40 ⟨a7, c7, z7, zc7, rfl, hS1, hS2, hb⟩
        replace hbW := below_step hbW hbW.size hb
        replace hM := hM.below hb
        replace hE := hE.below hb
        replace hZ := hZ.below hb
        clear hb
        refine ⟨Lib.hid trivial, ?_⟩
        refine fm_take (v := ?_) rfl rfl ?_ ?_; rotate_left; (next => (intro w' hSw; go_simp; (try with_reducible rfl))); (simp only [Act.put, List.setIfInBounds_toArray, List.set_cons_zero, List.set_cons_succ])
        refine fm_take (v := ?_) rfl rfl ?_ ?_; rotate_left; (next => (intro w' hSw; go_simp; (try with_reducible rfl))); (simp only [Act.put, List.setIfInBounds_toArray, List.set_cons_zero, List.set_cons_succ])
        refine fm_take (v := ?_) rfl rfl ?_ ?_; rotate_left; (next => (intro w' hSw; go_simp; (try with_reducible rfl))); (simp only [Act.put, List.setIfInBounds_toArray, List.set_cons_zero, List.set_cons_succ])
        refine fm_take (v := ?_) rfl rfl ?_ ?_; rotate_left; (next => (intro w' hSw; go_simp; (try with_reducible rfl))); (simp only [Act.put, List.setIfInBounds_toArray, List.set_cons_zero, List.set_cons_succ])
        refine fm_take (v := ?_) rfl rfl ?_ ?_; rotate_left; (next => (intro w' hSw; go_simp; (try with_reducible rfl))); (simp only [Act.put, List.setIfInBounds_toArray, List.set_cons_zero, List.set_cons_succ])
        refine fm_skip rfl ?_
        refine fm_one ?_
        refine opW_take rfl rfl ?_
        go_simp
        refine ⟨Lib.hid trivial, ?_⟩
        refine fm_one ?_
        refine opW_take rfl rfl ?_
        obtain ⟨q1, q2, q3⟩ := hM.facts
        go_simp
        have hF1 := hS1.putM hM (.int .i64 (d.length : Nat)) (.int .i64 (d.length : Nat)) (.slice z7 (d.length * d.length) zc7)
        have hF2 := hS2.putM hM (.int .i64 (d.length : Nat)) (.int .i64 (d.length : Nat)) (.slice z7 (d.length * d.length) zc7)
        have hMM := hM.put3 (.int .i64 (d.length : Nat)) (.int .i64 (d.length : Nat)) (.slice z7 (d.length * d.length) zc7)
        have hBB := below_put3 hbW hPM (.int .i64 (d.length : Nat)) (.int .i64 (d.length : Nat)) (.slice z7 (d.length * d.length) zc7)
        have HE := Lib.hid (show _ ∧ _ ∧ _ ∧ _ from ⟨hMM, hF1, hF2, hBB⟩)
        clear hF1 hF2 hMM hBB hM hS1 hS2 hbW q1 q2 q3 hE hZ
        generalize (((V40.setCell ⟨PM, 0, none⟩ (.int .i64 (d.length : Nat))).setCell ⟨PM, 1, none⟩ (.int .i64 (d.length : Nat))).setCell ⟨PM, 2, none⟩ (.slice z7 (d.length * d.length) zc7)) = V42 at *
        refine ⟨Lib.hid trivial, ?_⟩
        refine fm_one ?_
        refine opW_take rfl rfl ?_
        go_simp
        refine ⟨Lib.hid trivial, ?_⟩
        refine fm_nil ?_
        go_simp
        go_wp2
        refine NoPanic.normal ?_
        go_wp2_with fail
        go_meet
        case rel => exact ⟨a7, c7, z7, zc7, PM, rfl, rfl, rfl, rfl, HE.out.1, HE.out.2.1, HE.out.2.2.1, below_step HB.out HB.out.size HE.out.2.2.2⟩
      · refine opW_take rfl rfl ?_
        go_simp
        go_at_call 17
        refine (HO.out V37).mono ?_
        rintro r V44 ⟨a3, zb3, c3, rfl, hZ, hza, hb⟩
        replace hZ := hZ.fls
        replace hbW := below_step hbW hbW.size hb
        replace hM := hM.below hb
        clear hb
        refine ⟨Lib.hid trivial, ?_⟩
        refine fm_one ?_
        refine opW_take rfl rfl ?_
        go_simp
        have hb : Below V44.heap.size V44 (V44.alloc (.cells (Array.replicate k (Value.float .f64 0)) 42)) := (Below.refl _ _).alloc (Nat.le_refl _) _
        have hE := fls_rep V44 k
        rw [List.toArray_replicate] at hE
        replace hbW := below_step hbW hbW.size hb
        replace hM := hM.below hb
        replace hZ := hZ.below hb
        clear hb
        generalize V44.alloc (.cells (Array.replicate k (Value.float .f64 0)) 42) = V45 at *
        generalize V44.heap.size = be at *
        refine ⟨Lib.hid trivial, ?_⟩
        refine fm_take (v := ?_) rfl rfl ?_ ?_; rotate_left; (next => (intro w' hSw; go_simp; (try with_reducible rfl))); (simp only [Act.put, List.setIfInBounds_toArray, List.set_cons_zero, List.set_cons_succ])
        refine fm_skip rfl ?_
        refine fm_one ?_
        refine opW_take rfl rfl ?_
        go_simp
        go_at_call 10
        refine (HS.out V45 hbW _ _ k c3 hE hZ (fun h => by cases h) hza).mono ?_
        rintro r V46 ⟨a7, c7, z7, zc7, rfl, hS1, hS2, hb⟩
        replace hbW := below_step hbW hbW.size hb
        replace hM := hM.below hb
        replace hZ := hZ.below hb
        replace hE := hE.below hb
        clear hb
        refine ⟨Lib.hid trivial, ?_⟩
        refine fm_take (v := ?_) rfl rfl ?_ ?_; rotate_left; (next => (intro w' hSw; go_simp; (try with_reducible rfl))); (simp only [Act.put, List.setIfInBounds_toArray, List.set_cons_zero, List.set_cons_succ])
        refine fm_take (v := ?_) rfl rfl ?_ ?_; rotate_left; (next => (intro w' hSw; go_simp; (try with_reducible rfl))); (simp only [Act.put, List.setIfInBounds_toArray, List.set_cons_zero, List.set_cons_succ])
        refine fm_take (v := ?_) rfl rfl ?_ ?_; rotate_left; (next => (intro w' hSw; go_simp; (try with_reducible rfl))); (simp only [Act.put, List.setIfInBounds_toArray, List.set_cons_zero, List.set_cons_succ])
        refine fm_take (v := ?_) rfl rfl ?_ ?_; rotate_left; (next => (intro w' hSw; go_simp; (try with_reducible rfl))); (simp only [Act.put, List.setIfInBounds_toArray, List.set_cons_zero, List.set_cons_succ])
        refine fm_take (v := ?_) rfl rfl ?_ ?_; rotate_left; (next => (intro w' hSw; go_simp; (try with_reducible rfl))); (simp only [Act.put, List.setIfInBounds_toArray, List.set_cons_zero, List.set_cons_succ])
        refine fm_skip rfl ?_
        refine fm_one ?_
        refine opW_take rfl rfl ?_
        go_simp
        refine ⟨Lib.hid trivial, ?_⟩
        refine fm_one ?_
        refine opW_take rfl rfl ?_
        obtain ⟨q1, q2, q3⟩ := hM.facts
        go_simp
        have hF1 := hS1.putM hM (.int .i64 (d.length : Nat)) (.int .i64 (d.length : Nat)) (.slice z7 (d.length * d.length) zc7)
        have hF2 := hS2.putM hM (.int .i64 (d.length : Nat)) (.int .i64 (d.length : Nat)) (.slice z7 (d.length * d.length) zc7)
        have hMM := hM.put3 (.int .i64 (d.length : Nat)) (.int .i64 (d.length : Nat)) (.slice z7 (d.length * d.length) zc7)
        have hBB := below_put3 hbW hPM (.int .i64 (d.length : Nat)) (.int .i64 (d.length : Nat)) (.slice z7 (d.length * d.length) zc7)
        have HE := Lib.hid (show _ ∧ _ ∧ _ ∧ _ from ⟨hMM, hF1, hF2, hBB⟩)
        clear hF1 hF2 hMM hBB hM hS1 hS2 hbW q1 q2 q3 hE hZ
        generalize (((V46.setCell ⟨PM, 0, none⟩ (.int .i64 (d.length : Nat))).setCell ⟨PM, 1, none⟩ (.int .i64 (d.length : Nat))).setCell ⟨PM, 2, none⟩ (.slice z7 (d.length * d.length) zc7)) = V48 at *
        refine ⟨Lib.hid trivial, ?_⟩
        refine fm_one ?_
        refine opW_take rfl rfl ?_
        go_simp
        refine ⟨Lib.hid trivial, ?_⟩
        refine fm_nil ?_
        go_simp
        go_wp2
        refine NoPanic.normal ?_
        go_wp2_with fail
        go_meet
        case rel => exact ⟨a7, c7, z7, zc7, PM, rfl, rfl, rfl, rfl, HE.out.1, HE.out.2.1, HE.out.2.2.1, below_step HB.out HB.out.size HE.out.2.2.2⟩
-- END
  case rest =>
    obtain ⟨a7, c7, z7, zc7, PM, rfl, rfl, rfl, rfl, hM, hF1, hF2, hBw⟩ := hcut
    obtain ⟨hL1, hL2⟩ := HLn.out
    obtain ⟨σ, p1, p2, p3, p4⟩ := HP.out
    have HFF := Lib.hid (fun i (hi : i < d.length) => HNan.out i hi)
    obtain ⟨b1, o1, e1, l1, C1⟩ := hF1 (fun h => by rw [h] at hL1; simp at hL1; omega)
    obtain ⟨b2, o2, e2, l2, C2⟩ := hF2 (fun h => by
      rw [h] at hL2
      have : 0 < d.length * d.length := Nat.mul_pos hl0 hl0
      simp at hL2; omega)
    obtain ⟨b0, o0, e0, l0, C0⟩ := (HD.out.below hBw) (fun h => by rw [h] at hl0; simp at hl0)
    subst e1 e2 e0
    have HC1 := Lib.hid (show ∀ j, j < d.length → wc.cell? ⟨b1, o1 + j, none⟩ = some (.float .f64 (S1.getD j 0)) from fun j hj => by
      obtain ⟨s, hs⟩ := C1 j (S1.getD j 0) (by rw [List.getD_eq_getElem?_getD, List.getElem?_eq_getElem (by omega)]; rfl)
      rw [hs, p2 j hj, raw_of_not (HNan.out _ (p1 j hj))])
    have HC0 := Lib.hid (show ∀ j, j < d.length → wc.cell? ⟨b0, o0 + j, none⟩ = some (.float .f64 (d.getD j 0)) from fun j hj => by
      obtain ⟨s, hs⟩ := C0 j (d.getD j 0) (by rw [List.getD_eq_getElem?_getD, List.getElem?_eq_getElem (by omega)]; rfl)
      rw [hs, raw_of_not (HNan.out _ hj)])
    have HC2 := Lib.hid (show ∀ i j, i < d.length → j < d.length → wc.cell? ⟨b2, o2 + (i * d.length + j), none⟩ = some (.float .f64 (if i = σ j then 4607182418800017408 else 0)) from fun i j hi hj => by
      have hlt := place_ltq (R := d.length) hi hj
      obtain ⟨s, hs⟩ := C2 (i * d.length + j) (S2.getD (i * d.length + j) 0) (by rw [List.getD_eq_getElem?_getD, List.getElem?_eq_getElem (by omega)]; rfl)
      rw [hs, p3 i j hi hj]
      split
      · rw [raw_of_not (by kernel_rfl)]
      · rw [raw_of_not (by kernel_rfl)])
    have HPP := Lib.hid (show _ ∧ _ ∧ _ from ⟨p1, p2, p4⟩)
    have HBw := Lib.hid hBw
    obtain ⟨q1, q2, q3⟩ := hM.facts
    have HM := Lib.hid hM
    have hnn : wrap64 ((d.length : Int) * (d.length : Int)) = (d.length : Int) * (d.length : Int) := w64n (d.length * d.length) (by push_cast; rfl) (by have : d.length * d.length ≤ 24 * 24 := Nat.mul_le_mul hln hln; omega)
    clear HLn HP C1 C2 C0 p1 p2 p3 p4 hL1 hL2 hBw hM hF1 hF2 HS0 HO HB HNan hw hw' qM t1 t1' h1 h2 t2 hk hdr
    go_wp2_with fail
    clear hnn q1 q2 q3
    generalize hNN : d.length * d.length = NN at *
    have HNN := Lib.hid hNN
    clear hNN
    go_loopw [8] (fun s8 wr => ∃ j : Nat, j ≤ d.length ∧ s8 = .int .i64 j ∧ Below wc.heap.size wc wr) (fun s8 _ => d.length - (intOf s8).toNat)
    case atStart => exact ⟨0, Nat.zero_le _, rfl, Below.refl _ _⟩
    case round =>
      obtain ⟨j, hj, rfl, hBj⟩ := hrel
      by_cases hjl : j < d.length
      · have HBj := Lib.hid hBj
        have hjl' := hjl
        clear hBj
        go_wp2_with fail
        clear hjl'
        obtain ⟨sj, hsj⟩ : ∃ s, s = σ j := ⟨_, rfl⟩
        have hsl : sj < d.length := hsj ▸ HPP.out.1 j hjl
        have HSj := Lib.hid hsj
        clear hsj
        go_loopw [9, 10] (fun s9 s10 wr => ∃ i : Nat, i ≤ d.length ∧ s9 = .int .i64 ((if sj < i then 1 else 0 : Nat) : Int) ∧ s10 = .int .i64 i ∧ Below wc.heap.size wc wr) (fun _ s10 _ => d.length - (intOf s10).toNat)
        case atStart => exact ⟨0, Nat.zero_le _, by simp, rfl, HBj.out⟩
        case round =>
          obtain ⟨i, hi, rfl, rfl, hBi⟩ := hrel
          by_cases hil : i < d.length
          · have c2 := ((below_cells hBi).1 _ _ l2).trans (HC2.out i j hil hjl)
            obtain ⟨m, hm, hmN⟩ : ∃ m, m = i * d.length + j ∧ m < NN := ⟨_, rfl, by rw [← HNN.out]; exact place_ltq hil hjl⟩
            obtain ⟨Pn, hPn⟩ : ∃ Pn, Pn = i * d.length := ⟨_, rfl⟩
            have hNb : NN ≤ 576 := by rw [← HNN.out]; exact Nat.mul_le_mul hln hln
            have hw1 : wrap64 ((i : Int) * (d.length : Int)) = (Pn : Int) := by
              rw [w64n (i * d.length) (by push_cast; rfl) (by rw [← hPn]; omega), hPn]; push_cast; rfl
            have hw2 : wrap64 ((Pn : Int) + (j : Int)) = (m : Int) := by
              rw [w64n (Pn + j) (by push_cast; rfl) (by omega), hm, hPn]; push_cast; rfl
            rw [← hm] at c2
            obtain ⟨u9, hu9⟩ : ∃ u, u = (if sj < i then 1 else 0 : Nat) := ⟨_, rfl⟩
            rw [← hu9]
            have HB9 := Lib.hid (show _ ∧ _ ∧ _ ∧ _ from ⟨hu9, hBi, hil, hjl⟩)
            have hM := HM.out.below hBi
            obtain ⟨q1, q2, q3⟩ := hM.facts
            have hlb2 : b2 < wr.heap.size := Nat.lt_of_lt_of_le l2 hBi.size
            clear hPn hm hu9 hM hNb
            by_cases his : i = sj
            · have c1 := ((below_cells hBi).1 _ _ l1).trans (HC1.out j hjl)
              have c0 := ((below_cells hBi).1 _ _ l0).trans (HC0.out i hil)
              have hvv : d.getD i 0 = S1.getD j 0 := by rw [HPP.out.2.1 j hjl, his, HSj.out]
              rw [hvv] at c0
              rw [if_pos (by rw [his]; exact HSj.out)] at c2
              have hlb1 : b1 < wr.heap.size := Nat.lt_of_lt_of_le l1 hBi.size
              have hlb0 : b0 < wr.heap.size := Nat.lt_of_lt_of_le l0 hBi.size
              have t1 : feq 4607182418800017408 4607182418800017408 = true := by kernel_rfl
              generalize S1.getD j 0 = vv at *
              have HSm := Lib.hid (fun W => sameF_refl vv ▸ Same06_any vv vv W)
              obtain rfl : u9 = 0 := by rw [HB9.out.1, if_neg (by omega)]
              have HIS := Lib.hid his
              clear hBi his hvv hj
              go_wp2_with fail
              refine wp_region_nqb 8 (fun _ _ _ => False) (by kernel_rfl) (by kernel_rfl) ?_
              intro Cw Rw hc hb' hb2 hd hRw
              simp only [List.take_succ_cons, List.take_zero]
              repeat (
                first
                  | (refine nqW_skip rfl (fun K hK => ?_); go_frame; refine hK _ ?_; clear hK K)
                  | ((first | (refine nqW_plain (fun K hK => ?_)) | (refine nqW_want rfl (fun K hK => ?_)) | (refine nqW_step (fun K hK => ?_); go_simp))
                     first
                       | (refine nq_move rfl ?_; go_simp; refine hK _ ?_; clear hK K)
                       | (refine nq_assign rfl ?_; go_simp; refine hK _ ?_; clear hK K)
                       | (refine nq_flt rfl rfl rfl rfl hd ?_; intro _; go_frame; refine hK _ ?_; clear hK K)
                       | (refine nq_same ?_; intro w' hw'; go_simp; (try go_bits); refine hK _ ?_; clear hK K hw' w')
                       | (refine nq_same ?_; intro w' hw'; go_simp; rw [if_pos (by omega)]; go_simp; (try go_bits); refine hK _ ?_; clear hK K hw' w')
                       | (go_simp; refine hK _ ?_; clear hK K)))
              refine nqW_nil (hRw _ ?_)
              clear hc hb' hb2 hd hRw
              intro w' hw'
              simp only [List.drop]
              go_wp2_with fail
              refine (HSm.out _).mono ?_
              rintro x w9 ⟨rfl, hw9⟩
              subst hw9
              go_wp2_with fail
              go_roundw
              case rel => exact ⟨i + 1, HB9.out.2.2.1, by rw [if_pos (by have := HIS.out; omega)]; rfl, by go_num, below_step HB9.out.2.1 HB9.out.2.1.size hw'⟩
              case measure => have := HB9.out.2.2.1; simp [intOf]; omega
            · rw [if_neg (by rw [← HSj.out]; exact his)] at c2
              have t1 : feq 0 4607182418800017408 = false := by kernel_rfl
              have t2 : feq 0 0 = true := by kernel_rfl
              have HIS := Lib.hid his
              clear hBi his hj
              go_wp2_with fail
              go_roundw
              case rel => exact ⟨i + 1, HB9.out.2.2.1, by rw [HB9.out.1]; have := HIS.out; by_cases h7 : sj < i; rw [if_pos h7, if_pos (by omega)]; rw [if_neg h7, if_neg (by omega)], by go_num, HB9.out.2.1⟩
              case measure => have := HB9.out.2.2.1; simp [intOf]; omega
          · obtain rfl : i = d.length := by omega
            have e9 : (if sj < d.length then 1 else 0 : Nat) = 1 := if_pos hsl
            rw [e9]
            by_cases h0 : j = 0
            · have tk : decide (0 < (j : Int)) = false := decide_eq_false (by omega)
              have tk' : decide (0 < j) = false := decide_eq_false (by omega)
              have HBi := Lib.hid (And.intro hBi hjl)
              clear h0 e9 hBi hj
              go_wp2_with fail
              refine wp_region_nqb 18 (fun _ _ _ => False) (by kernel_rfl) (by kernel_rfl) ?_
              intro Cw Rw hc hb' hb2 hd hRw
              simp only [List.take_succ_cons, List.take_zero]
              repeat (
                first
                  | (refine nqW_skip rfl (fun K hK => ?_); go_frame; refine hK _ ?_; clear hK K)
                  | ((first | (refine nqW_plain (fun K hK => ?_)) | (refine nqW_want rfl (fun K hK => ?_)) | (refine nqW_step (fun K hK => ?_); go_simp))
                     first
                       | (refine nq_move rfl ?_; go_simp; refine hK _ ?_; clear hK K)
                       | (refine nq_assign rfl ?_; go_simp; refine hK _ ?_; clear hK K)
                       | (refine nq_flt rfl rfl rfl rfl hd ?_; intro _; go_frame; refine hK _ ?_; clear hK K)
                       | (refine nq_same ?_; intro w' hw'; go_simp; (try go_bits); refine hK _ ?_; clear hK K hw' w')
                       | (refine nq_same ?_; intro w' hw'; go_simp; rw [if_pos (by omega)]; go_simp; (try go_bits); refine hK _ ?_; clear hK K hw' w')
                       | (go_simp; refine hK _ ?_; clear hK K)))
              refine nqW_nil (hRw _ ?_)
              clear hc hb' hb2 hd hRw
              intro w' hw'
              simp only [List.drop]
              go_wp2_with fail
              go_roundw
              case rel => exact ⟨j + 1, HBi.out.2, by go_num, below_step HBi.out.1 HBi.out.1.size hw'⟩
              case measure => have := HBi.out.2; simp [intOf]; omega
            · have tk : decide (0 < (j : Int)) = true := decide_eq_true (by omega)
              have tk' : decide (0 < j) = true := decide_eq_true (by omega)
              have c1 := ((below_cells hBi).1 _ (o1 + j) l1).trans (HC1.out j hjl)
              have c2 := ((below_cells hBi).1 _ (o1 + (j - 1)) l1).trans (HC1.out (j - 1) (by omega))
              have t1 := HPP.out.2.2 j (by omega) hjl
              have hlb1 : b1 < wr.heap.size := Nat.lt_of_lt_of_le l1 hBi.size
              have hwk : IntKind.i64.wrap ((j : Int) - 1) = (j : Int) - 1 := by rw [IntKind.wrap_i64]; omega
              have hwk' : wrap64 ((j : Int) - 1) = (j : Int) - 1 := by unfold wrap64; omega
              have i1 : ((j : Int) - 1).toNat = j - 1 := by omega
              have i2 : 0 ≤ (j : Int) - 1 := by omega
              have i3 : (j : Int) - 1 < (d.length : Int) := by omega
              have HBi := Lib.hid (And.intro hBi hjl)
              generalize S1.getD j 0 = v1 at *
              generalize S1.getD (j - 1) 0 = v0 at *
              generalize j - 1 = kj at *
              clear h0 e9 hBi hj
              go_wp2_with fail
              refine wp_region_nqb 18 (fun _ _ _ => False) (by kernel_rfl) (by kernel_rfl) ?_
              intro Cw Rw hc hb' hb2 hd hRw
              simp only [List.take_succ_cons, List.take_zero]
              repeat (
                first
                  | (refine nqW_skip rfl (fun K hK => ?_); go_frame; refine hK _ ?_; clear hK K)
                  | ((first | (refine nqW_plain (fun K hK => ?_)) | (refine nqW_want rfl (fun K hK => ?_)) | (refine nqW_step (fun K hK => ?_); go_simp))
                     first
                       | (refine nq_move rfl ?_; go_simp; refine hK _ ?_; clear hK K)
                       | (refine nq_assign rfl ?_; go_simp; refine hK _ ?_; clear hK K)
                       | (refine nq_flt rfl rfl rfl rfl hd ?_; intro _; go_frame; refine hK _ ?_; clear hK K)
                       | (refine nq_same ?_; intro w' hw'; go_simp; (try go_bits); refine hK _ ?_; clear hK K hw' w')
                       | (refine nq_same ?_; intro w' hw'; go_simp; rw [if_pos (by omega)]; go_simp; (try go_bits); refine hK _ ?_; clear hK K hw' w')
                       | (go_simp; refine hK _ ?_; clear hK K)))
              refine nqW_nil (hRw _ ?_)
              clear hc hb' hb2 hd hRw
              intro w' hw'
              simp only [List.drop]
              go_wp2_with fail
              go_roundw
              case rel => exact ⟨j + 1, HBi.out.2, by go_num, below_step HBi.out.1 HBi.out.1.size hw'⟩
              case measure => have := HBi.out.2; simp [intOf]; omega
      · obtain rfl : j = d.length := by omega
        have hBw := below_step HBw.out HBw.out.size hBj
        clear hBj
        go_wp2_with fail
        refine (known12_any _).mono ?_
        rintro e w9 ⟨rfl, hb9⟩
        go_wp2
        go_ret
        exact ⟨rfl, below_step hBw hBw.size hb9⟩
end Go.Proofs.Ytbmnlohaidbmdaa
