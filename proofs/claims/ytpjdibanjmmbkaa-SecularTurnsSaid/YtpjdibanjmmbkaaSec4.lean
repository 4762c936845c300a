/- Side at a pole that there is, the reference's Abs, and the known rows. -/
import Derived.Test.YtpjdibanjmmbkaaSec3
namespace Go.Proofs.Ytpjdibanjmmbkaa
open Go Go.RowKit
set_option maxRecDepth 100000

set_option maxHeartbeats 2000000 in
theorem Side_any (w : World) (da za : Option Addr) (ds zs : List Nat) (dc zc : Nat) (rho : Nat) (n off : Nat) (hD : Fls w da ds) (hZ : Fls w za zs) (hWD : Words ds) (hWZ : Words zs) (hrho : rho < 18446744073709551616) (hl : ds.length ≤ maxLen) (hlz : zs.length ≤ maxLen)
    (hm : mayS ds zs rho = 0) (hn : n < ds.length) :
    Calls Try.prog 18 #[.agg #[.slice da ds.length dc, .slice za zs.length zc, .float .f64 rho], .agg #[.int .i64 n, .float .f64 off]] w fun e w' => (∃ s, e = .returned (.tuple #[.float .f64 (raw (sideS ds zs rho n off) s), .int .i64 0])) ∧ Below w.heap.size w w' := by
  have HM := Lib.hid (fun (W : World) (hB : Below w.heap.size w W) => May_any W da za ds zs dc zc rho (hD.below hB) (hZ.below hB) hWD hWZ hrho hl hlz)
  have HA := Lib.hid (fun (W : World) => at_any da za ds.length dc zs.length zc rho n W hl)
  have hin := mayS_ok hm
  have HS := Lib.hid (fun (W : World) (hB : Below w.heap.size w W) => side_any W da za ds zs dc zc rho n off (hD.below hB) (hZ.below hB) hn hin.2.2 hl)
  have hx1 : Box ((w.alloc (.cells #[.slice da ds.length dc, .slice za zs.length zc, .float .f64 rho] 25)).alloc (.cells #[.int .i64 n, .float .f64 off] 28)) w.heap.size [.slice da ds.length dc, .slice za zs.length zc, .float .f64 rho] := (Box.new w _ 25).alloc _
  have hx2 : Box ((w.alloc (.cells #[.slice da ds.length dc, .slice za zs.length zc, .float .f64 rho] 25)).alloc (.cells #[.int .i64 n, .float .f64 off] 28)) (w.heap.size + 1) [.int .i64 n, .float .f64 off] := by
    have h := Box.new (w.alloc (.cells #[.slice da ds.length dc, .slice za zs.length zc, .float .f64 rho] 25)) [.int .i64 n, .float .f64 off] 28
    rw [World.size_alloc] at h; exact h
  have hB0 : Below w.heap.size w ((w.alloc (.cells #[.slice da ds.length dc, .slice za zs.length zc, .float .f64 rho] 25)).alloc (.cells #[.int .i64 n, .float .f64 off] 28)) := ((Below.refl _ _).alloc (Nat.le_refl _) _).alloc (by simp) _
  have t1 : (mayS ds zs rho != 0) = false := by simp [hm]
  have t2 : decide ((0 : Int) ≤ (n : Int) ∧ (n : Int) < (ds.length : Int)) = true := by simp; omega
  clear hm hin
  go_enter Try.func18, Try.ntmps18
  go_wp2_with fail
  refine (HM.out _ hB0).mono ?_
  rintro e w1 ⟨rfl, hb1⟩
  have y1 := hx1.below hb1
  have y2 := hx2.below hb1
  have hB1 := below_step hB0 hB0.size hb1
  obtain ⟨a1, a2, a3⟩ := y1.facts
  obtain ⟨a4, a5, a6⟩ := y2.facts
  go_wp2_with fail
  refine (HA.out _).mono ?_
  rintro e w2 ⟨rfl, hb2⟩
  rw [t2]
  have z1 := y1.below hb2
  have z2 := y2.below hb2
  have hB2 := below_step hB1 hB1.size hb2
  obtain ⟨c1, c2, c3⟩ := z1.facts
  obtain ⟨c4, c5, c6⟩ := z2.facts
  go_wp2_with fail
  refine (HS.out _ hB2).mono ?_
  rintro e w3 ⟨⟨s', rfl⟩, hb3⟩
  go_wp2
  go_ret2
  exact ⟨⟨s', rfl⟩, below_step hB2 hB2.size hb3⟩

theorem RefAbs_any (x : Nat) (hx : x < 18446744073709551616) (w : World) : Calls Try.prog 15 #[.float .f64 x] w fun e w' => e = .returned (.float .f64 (fabs x)) ∧ w = w' := by
  go_enter Try.func15, Try.ntmps15
  go_wp2
  go_ret
  refine ⟨?_, rfl⟩
  have e : (IntKind.u64.wrap ((x : Int) * 2) / 2).toNat = fabs x := by
    rw [IntKind.wrap_u64]; unfold fabs; omega
  rw [e]
  rfl

/-- A new block of floats that are no NaNs, as a slice's. -/
theorem Fls.ofBox {w : World} {n : Nat} {zs : List Nat} (h : Box w n (zs.map (Value.float .f64))) (hn : ∀ v ∈ zs, isnan v = false) : Fls w (some ⟨n, 0, none⟩) zs := fun _ => by
  refine ⟨n, 0, rfl, h.lt, fun i v hv => ⟨0, ?_⟩⟩
  have hm : v ∈ zs := List.mem_of_getElem? hv
  rw [raw_of_not (hn v hm), h.cell]
  simp [hv]

theorem fa1 (e : Ending) (h : FindA [0] [4607182418800017408] 4611686018427387904 0 e) : e = .returned (.tuple #[.agg #[.int .i64 0, .float .f64 4611686018427387904], .int .i64 62, .int .i64 0]) := by
  unfold FindA at h
  rw [if_neg (by rw [show mayS [0] [4607182418800017408] 4611686018427387904 = 0 from by kernel_rfl]; decide), if_pos (by decide)] at h
  unfold FindR at h
  rw [if_pos (by kernel_rfl)] at h
  obtain ⟨s, hs⟩ := h
  rw [hs, show fmul (sgnS (negS [0] [4607182418800017408] 4611686018427387904 (Int.toNat 0))) (bis (testS [0] [4607182418800017408] 4611686018427387904 (Int.toNat 0)) 0 (greatS [0] [4607182418800017408] 4611686018427387904 (Int.toNat 0)) 0).1 = 4611686018427387904 from by kernel_rfl,
    show (bis (testS [0] [4607182418800017408] 4611686018427387904 (Int.toNat 0)) 0 (greatS [0] [4607182418800017408] 4611686018427387904 (Int.toNat 0)) 0).2 = 62 from by kernel_rfl,
    show atS [0] [4607182418800017408] 4611686018427387904 (Int.toNat 0) = 0 from by kernel_rfl, raw_of_not (by kernel_rfl)]
  rfl
theorem fa2 (e : Ending) (h : FindA [0, 4607182418800017408] [4607182418800017408, 4607182418800017408] 4607182418800017408 0 e) : e = .returned (.tuple #[.agg #[.int .i64 0, .float .f64 4600552507861642594], .int .i64 62, .int .i64 0]) := by
  unfold FindA at h
  rw [if_neg (by rw [show mayS [0, 4607182418800017408] [4607182418800017408, 4607182418800017408] 4607182418800017408 = 0 from by kernel_rfl]; decide), if_pos (by decide)] at h
  unfold FindR at h
  rw [if_pos (by kernel_rfl)] at h
  obtain ⟨s, hs⟩ := h
  rw [hs, show fmul (sgnS (negS [0, 4607182418800017408] [4607182418800017408, 4607182418800017408] 4607182418800017408 (Int.toNat 0))) (bis (testS [0, 4607182418800017408] [4607182418800017408, 4607182418800017408] 4607182418800017408 (Int.toNat 0)) 0 (greatS [0, 4607182418800017408] [4607182418800017408, 4607182418800017408] 4607182418800017408 (Int.toNat 0)) 0).1 = 4600552507861642594 from by kernel_rfl,
    show (bis (testS [0, 4607182418800017408] [4607182418800017408, 4607182418800017408] 4607182418800017408 (Int.toNat 0)) 0 (greatS [0, 4607182418800017408] [4607182418800017408, 4607182418800017408] 4607182418800017408 (Int.toNat 0)) 0).2 = 62 from by kernel_rfl,
    show atS [0, 4607182418800017408] [4607182418800017408, 4607182418800017408] 4607182418800017408 (Int.toNat 0) = 0 from by kernel_rfl, raw_of_not (by kernel_rfl)]
  rfl
theorem ma1 : mayS [4607182418800017408, 4607182418800017408] [4607182418800017408, 4607182418800017408] 4607182418800017408 = 2 := by kernel_rfl
theorem ma2 : mayS [4607182418800017408] [0] 4607182418800017408 = 2 := by kernel_rfl
theorem ma3 : mayS [4607182418800017408] [4607182418800017408] 0 = 2 := by kernel_rfl

theorem Box.newAt (w : World) (cs : List Value) (T : TypeId) {n : Nat} (h : w.heap.size = n) : Box (w.alloc (.cells cs.toArray T)) n cs := by subst h; exact Box.new w cs T
theorem okW {zs : List Nat} (h : zs.all (fun v => !isnan v && decide (v < 18446744073709551616)) = true) : (∀ v ∈ zs, isnan v = false) ∧ Words zs := by
  rw [List.all_eq_true] at h
  constructor
  · intro v hv
    have := h v hv
    simp at this
    exact this.1
  · intro v hv
    have := h v hv
    simp at this
    exact this.2
theorem w01 : (∀ v ∈ [0], isnan v = false) ∧ Words [0] := okW (by kernel_rfl)
theorem w1 : (∀ v ∈ [4607182418800017408], isnan v = false) ∧ Words [4607182418800017408] := okW (by kernel_rfl)
theorem w001 : (∀ v ∈ [0, 4607182418800017408], isnan v = false) ∧ Words [0, 4607182418800017408] := okW (by kernel_rfl)
theorem w11 : (∀ v ∈ [4607182418800017408, 4607182418800017408], isnan v = false) ∧ Words [4607182418800017408, 4607182418800017408] := okW (by kernel_rfl)
theorem flo_zero : floatOfInt .f64 0 = 0 := by kernel_rfl
theorem fadd_known : fadd 4600552507861642594 0 = 4600552507861642594 := by kernel_rfl
theorem flt_known1 : flt 4611681514827760534 4611686018427387904 = true := by kernel_rfl
theorem flt_known2 : flt 4611686018427387904 4611688270227201589 = true := by kernel_rfl
theorem flt_known3 : flt 0 4600552507861642594 = true := by kernel_rfl
theorem flt_known4 : flt 4600552507861642594 4607182418800017408 = true := by kernel_rfl

set_option maxHeartbeats 2000000 in
theorem known_any (w : World) : Calls Try.prog 13 #[] w fun e w' => e = .returned (.bool true) ∧ Below w.heap.size w w' := by
  have q1 := flo_zero
  have q2 := fadd_known
  have q3 := flt_known1
  have q4 := flt_known2
  have q5 := flt_known3
  have q6 := flt_known4
  go_enter Try.func13, Try.ntmps13
  go_wp2_with fail
  have hB0 : Below w.heap.size w ((w.alloc (.cells #[.float .f64 0] 23)).alloc (.cells #[.float .f64 4607182418800017408] 23)) := ((Below.refl _ _).alloc (Nat.le_refl _) _).alloc (by simp) _
  refine (Find_any _ _ _ [0] [4607182418800017408] _ _ _ 0 (Fls.ofBox ((Box.newAt _ [.float .f64 0] _ rfl).alloc _) w01.1) (Fls.ofBox (Box.newAt _ [.float .f64 4607182418800017408] _ (by simp)) w1.1) w01.2 w1.2 (by decide) (by decide) (by decide)).mono ?_
  rintro e v1 ⟨hF, hb1⟩
  obtain rfl := fa1 _ hF
  clear hF
  have hB1 := below_step hB0 hB0.size hb1
  clear hB0 hb1
  go_wp2_with fail
  have s1 := hB1.size
  have r1 : Box (((v1.alloc (.cells #[.int .i64 0, .float .f64 4611686018427387904] 28)).alloc (.cells #[.float .f64 0, .float .f64 4607182418800017408] 23)).alloc (.cells #[.float .f64 4607182418800017408, .float .f64 4607182418800017408] 23)) v1.heap.size [.int .i64 0, .float .f64 4611686018427387904] := ((Box.new v1 _ 28).alloc _).alloc _
  have hB2 : Below w.heap.size w (((v1.alloc (.cells #[.int .i64 0, .float .f64 4611686018427387904] 28)).alloc (.cells #[.float .f64 0, .float .f64 4607182418800017408] 23)).alloc (.cells #[.float .f64 4607182418800017408, .float .f64 4607182418800017408] 23)) := ((hB1.alloc s1 _).alloc (by simp; omega) _).alloc (by simp; omega) _
  refine (Find_any _ _ _ [0, 4607182418800017408] [4607182418800017408, 4607182418800017408] _ _ _ 0 (Fls.ofBox ((Box.newAt _ [.float .f64 0, .float .f64 4607182418800017408] _ (by simp)).alloc _) w001.1) (Fls.ofBox (Box.newAt _ [.float .f64 4607182418800017408, .float .f64 4607182418800017408] _ (by simp)) w11.1) w001.2 w11.2 (by decide) (by decide) (by decide)).mono ?_
  rintro e v2 ⟨hF, hb2⟩
  obtain rfl := fa2 _ hF
  clear hF
  have r2 := r1.below hb2
  have hB3 := below_step hB2 hB2.size hb2
  clear r1 hB2 hb2 hB1 s1
  generalize v1.heap.size = n1 at *
  have s2 := hB3.size
  obtain ⟨a1, a2, a3⟩ := r2.facts
  go_wp2_with fail
  have r3 : Box (((v2.alloc (.cells #[.int .i64 0, .float .f64 4600552507861642594] 28)).alloc (.cells #[.float .f64 4607182418800017408, .float .f64 4607182418800017408] 23)).alloc (.cells #[.float .f64 4607182418800017408, .float .f64 4607182418800017408] 23)) v2.heap.size [.int .i64 0, .float .f64 4600552507861642594] := ((Box.new v2 _ 28).alloc _).alloc _
  have r4 : Box (((v2.alloc (.cells #[.int .i64 0, .float .f64 4600552507861642594] 28)).alloc (.cells #[.float .f64 4607182418800017408, .float .f64 4607182418800017408] 23)).alloc (.cells #[.float .f64 4607182418800017408, .float .f64 4607182418800017408] 23)) n1 [.int .i64 0, .float .f64 4611686018427387904] := ((r2.alloc _).alloc _).alloc _
  have hB4 : Below w.heap.size w (((v2.alloc (.cells #[.int .i64 0, .float .f64 4600552507861642594] 28)).alloc (.cells #[.float .f64 4607182418800017408, .float .f64 4607182418800017408] 23)).alloc (.cells #[.float .f64 4607182418800017408, .float .f64 4607182418800017408] 23)) := ((hB3.alloc s2 _).alloc (by simp; omega) _).alloc (by simp; omega) _
  refine (May_any _ _ _ [4607182418800017408, 4607182418800017408] [4607182418800017408, 4607182418800017408] _ _ _ (Fls.ofBox ((Box.newAt _ [.float .f64 4607182418800017408, .float .f64 4607182418800017408] _ (by simp)).alloc _) w11.1) (Fls.ofBox (Box.newAt _ [.float .f64 4607182418800017408, .float .f64 4607182418800017408] _ (by simp)) w11.1) w11.2 w11.2 (by decide) (by decide) (by decide)).mono ?_
  rintro e v3 ⟨rfl, hb4⟩
  rw [ma1]
  have r5 := r3.below hb4
  have r6 := r4.below hb4
  have hB5 := below_step hB4 hB4.size hb4
  have hne : n1 < v2.heap.size := a1
  clear r3 r4 hB4 hb4 hB3 s2 r2 a1 a2 a3
  generalize v2.heap.size = n2 at *
  have s3 := hB5.size
  go_wp2_with fail
  have r7 : Box ((v3.alloc (.cells #[.float .f64 4607182418800017408] 23)).alloc (.cells #[.float .f64 0] 23)) n1 [.int .i64 0, .float .f64 4611686018427387904] := (r6.alloc _).alloc _
  have r8 : Box ((v3.alloc (.cells #[.float .f64 4607182418800017408] 23)).alloc (.cells #[.float .f64 0] 23)) n2 [.int .i64 0, .float .f64 4600552507861642594] := (r5.alloc _).alloc _
  have hB6 : Below w.heap.size w ((v3.alloc (.cells #[.float .f64 4607182418800017408] 23)).alloc (.cells #[.float .f64 0] 23)) := (hB5.alloc s3 _).alloc (by simp; omega) _
  refine (May_any _ _ _ [4607182418800017408] [0] _ _ _ (Fls.ofBox ((Box.newAt _ [.float .f64 4607182418800017408] _ (by simp)).alloc _) w1.1) (Fls.ofBox (Box.newAt _ [.float .f64 0] _ (by simp)) w01.1) w1.2 w01.2 (by decide) (by decide) (by decide)).mono ?_
  rintro e v4 ⟨rfl, hb6⟩
  rw [ma2]
  have r9 := r7.below hb6
  have r10 := r8.below hb6
  have hB7 := below_step hB6 hB6.size hb6
  clear r7 r8 hB6 hb6 hB5 s3 r5 r6
  have s4 := hB7.size
  go_wp2_with fail
  have r11 : Box ((v4.alloc (.cells #[.float .f64 4607182418800017408] 23)).alloc (.cells #[.float .f64 4607182418800017408] 23)) n1 [.int .i64 0, .float .f64 4611686018427387904] := (r9.alloc _).alloc _
  have r12 : Box ((v4.alloc (.cells #[.float .f64 4607182418800017408] 23)).alloc (.cells #[.float .f64 4607182418800017408] 23)) n2 [.int .i64 0, .float .f64 4600552507861642594] := (r10.alloc _).alloc _
  have hB8 : Below w.heap.size w ((v4.alloc (.cells #[.float .f64 4607182418800017408] 23)).alloc (.cells #[.float .f64 4607182418800017408] 23)) := (hB7.alloc s4 _).alloc (by simp; omega) _
  refine (May_any _ _ _ [4607182418800017408] [4607182418800017408] _ _ _ (Fls.ofBox ((Box.newAt _ [.float .f64 4607182418800017408] _ (by simp)).alloc _) w1.1) (Fls.ofBox (Box.newAt _ [.float .f64 4607182418800017408] _ (by simp)) w1.1) w1.2 w1.2 (by decide) (by decide) (by decide)).mono ?_
  rintro e v5 ⟨rfl, hb8⟩
  rw [ma3]
  have r13 := r11.below hb8
  have r14 := r12.below hb8
  have hB9 := below_step hB8 hB8.size hb8
  clear r11 r12 hB8 hb8 hB7 s4 r9 r10
  obtain ⟨a1, a2, a3⟩ := r13.facts
  obtain ⟨a4, a5, a6⟩ := r14.facts
  go_wp2_with (first | (refine wpList_flt rfl rfl rfl rfl rfl ?_; intro K hK _ _; go_frame; refine hK _ _ ?_; clear hK K))
  go_ret
  exact ⟨rfl, below_drewN _ hB9⟩
end Go.Proofs.Ytpjdibanjmmbkaa
