/- The document's views: a view takes another's floats. -/
import Derived.Test.YtpjdibanjmmbkaaRt
namespace Go.Proofs.Ytpjdibanjmmbkaa
open Go Go.RowKit
set_option maxRecDepth 100000

theorem Option.isNone_eq_not_isSome_vt {α : Type} (o : Option α) : o.isNone = !o.isSome := by cases o <;> rfl
/-- The ways on which nothing is taken. -/
theorem rtake_no1 (w : World) (ea aa fa ba : Option Addr) (en ec ac fn fc bc an bn : Nat) (r c r' c' : Int) (is' : Bool) :
    Calls Try.prog 57 #[.agg #[.slice ea en ec, .int .i64 r, .int .i64 c, .slice aa an ac, .bool false], .agg #[.slice fa fn fc, .int .i64 r', .int .i64 c', .slice ba bn bc, .bool is']] w fun e w' => e = .returned (.int .i64 1) ∧ Below w.heap.size w w' := by
  have x0 : Box ((w.alloc (.cells #[.slice ea en ec, .int .i64 r, .int .i64 c, .slice aa an ac, .bool false] 48)).alloc (.cells #[.slice fa fn fc, .int .i64 r', .int .i64 c', .slice ba bn bc, .bool is'] 48)) w.heap.size [.slice ea en ec, .int .i64 r, .int .i64 c, .slice aa an ac, .bool false] := (Box.newA w [_, _, _, _, _] _ rfl).alloc _
  have x1 : Box ((w.alloc (.cells #[.slice ea en ec, .int .i64 r, .int .i64 c, .slice aa an ac, .bool false] 48)).alloc (.cells #[.slice fa fn fc, .int .i64 r', .int .i64 c', .slice ba bn bc, .bool is'] 48)) (w.heap.size + 1) [.slice fa fn fc, .int .i64 r', .int .i64 c', .slice ba bn bc, .bool is'] := Box.newA _ [_, _, _, _, _] _ (by simp)
  have hB0 : Below w.heap.size w ((w.alloc (.cells #[.slice ea en ec, .int .i64 r, .int .i64 c, .slice aa an ac, .bool false] 48)).alloc (.cells #[.slice fa fn fc, .int .i64 r', .int .i64 c', .slice ba bn bc, .bool is'] 48)) := ((Below.refl _ _).alloc (Nat.le_refl _) _).alloc (by simp) _
  have hz0 : ((w.alloc (.cells #[.slice ea en ec, .int .i64 r, .int .i64 c, .slice aa an ac, .bool false] 48)).alloc (.cells #[.slice fa fn fc, .int .i64 r', .int .i64 c', .slice ba bn bc, .bool is'] 48)).heap.size = w.heap.size + 2 := by simp
  go_enter Try.func57, Try.ntmps57
  go_wp2
  go_ret
  exact ⟨rfl, hB0⟩
theorem rtake_no2 (w : World) (ea aa fa ba : Option Addr) (en ec ac fn fc bc an bn : Nat) (r c r' c' : Int) :
    Calls Try.prog 57 #[.agg #[.slice ea en ec, .int .i64 r, .int .i64 c, .slice aa an ac, .bool true], .agg #[.slice fa fn fc, .int .i64 r', .int .i64 c', .slice ba bn bc, .bool false]] w fun e w' => e = .returned (.int .i64 1) ∧ Below w.heap.size w w' := by
  have x0 : Box ((w.alloc (.cells #[.slice ea en ec, .int .i64 r, .int .i64 c, .slice aa an ac, .bool true] 48)).alloc (.cells #[.slice fa fn fc, .int .i64 r', .int .i64 c', .slice ba bn bc, .bool false] 48)) w.heap.size [.slice ea en ec, .int .i64 r, .int .i64 c, .slice aa an ac, .bool true] := (Box.newA w [_, _, _, _, _] _ rfl).alloc _
  have x1 : Box ((w.alloc (.cells #[.slice ea en ec, .int .i64 r, .int .i64 c, .slice aa an ac, .bool true] 48)).alloc (.cells #[.slice fa fn fc, .int .i64 r', .int .i64 c', .slice ba bn bc, .bool false] 48)) (w.heap.size + 1) [.slice fa fn fc, .int .i64 r', .int .i64 c', .slice ba bn bc, .bool false] := Box.newA _ [_, _, _, _, _] _ (by simp)
  have hB0 : Below w.heap.size w ((w.alloc (.cells #[.slice ea en ec, .int .i64 r, .int .i64 c, .slice aa an ac, .bool true] 48)).alloc (.cells #[.slice fa fn fc, .int .i64 r', .int .i64 c', .slice ba bn bc, .bool false] 48)) := ((Below.refl _ _).alloc (Nat.le_refl _) _).alloc (by simp) _
  have hz0 : ((w.alloc (.cells #[.slice ea en ec, .int .i64 r, .int .i64 c, .slice aa an ac, .bool true] 48)).alloc (.cells #[.slice fa fn fc, .int .i64 r', .int .i64 c', .slice ba bn bc, .bool false] 48)).heap.size = w.heap.size + 2 := by simp
  go_enter Try.func57, Try.ntmps57
  go_wp2
  go_ret
  exact ⟨rfl, hB0⟩
theorem rtake_no3 (w : World) (ea aa fa ba : Option Addr) (en ec ac fn fc bc an bn r c r' c' : Nat) (hne : r ≠ r' ∨ c ≠ c') :
    Calls Try.prog 57 #[.agg #[.slice ea en ec, .int .i64 r, .int .i64 c, .slice aa an ac, .bool true], .agg #[.slice fa fn fc, .int .i64 r', .int .i64 c', .slice ba bn bc, .bool true]] w fun e w' => e = .returned (.int .i64 8) ∧ Below w.heap.size w w' := by
  by_cases hr : r = r'
  · have t1 : ((r : Int) != (r' : Int)) = false := by simp; omega
    have t2 : ((c : Int) != (c' : Int)) = true := by simp; omega
    clear hr hne
    have x0 : Box ((w.alloc (.cells #[.slice ea en ec, .int .i64 r, .int .i64 c, .slice aa an ac, .bool true] 48)).alloc (.cells #[.slice fa fn fc, .int .i64 r', .int .i64 c', .slice ba bn bc, .bool true] 48)) w.heap.size [.slice ea en ec, .int .i64 r, .int .i64 c, .slice aa an ac, .bool true] := (Box.newA w [_, _, _, _, _] _ rfl).alloc _
    have x1 : Box ((w.alloc (.cells #[.slice ea en ec, .int .i64 r, .int .i64 c, .slice aa an ac, .bool true] 48)).alloc (.cells #[.slice fa fn fc, .int .i64 r', .int .i64 c', .slice ba bn bc, .bool true] 48)) (w.heap.size + 1) [.slice fa fn fc, .int .i64 r', .int .i64 c', .slice ba bn bc, .bool true] := Box.newA _ [_, _, _, _, _] _ (by simp)
    have hB0 : Below w.heap.size w ((w.alloc (.cells #[.slice ea en ec, .int .i64 r, .int .i64 c, .slice aa an ac, .bool true] 48)).alloc (.cells #[.slice fa fn fc, .int .i64 r', .int .i64 c', .slice ba bn bc, .bool true] 48)) := ((Below.refl _ _).alloc (Nat.le_refl _) _).alloc (by simp) _
    have hz0 : ((w.alloc (.cells #[.slice ea en ec, .int .i64 r, .int .i64 c, .slice aa an ac, .bool true] 48)).alloc (.cells #[.slice fa fn fc, .int .i64 r', .int .i64 c', .slice ba bn bc, .bool true] 48)).heap.size = w.heap.size + 2 := by simp
    go_enter Try.func57, Try.ntmps57
    go_wp2
    go_ret
    exact ⟨rfl, hB0⟩
  · have t1 : ((r : Int) != (r' : Int)) = true := by simp; omega
    clear hr hne
    have x0 : Box ((w.alloc (.cells #[.slice ea en ec, .int .i64 r, .int .i64 c, .slice aa an ac, .bool true] 48)).alloc (.cells #[.slice fa fn fc, .int .i64 r', .int .i64 c', .slice ba bn bc, .bool true] 48)) w.heap.size [.slice ea en ec, .int .i64 r, .int .i64 c, .slice aa an ac, .bool true] := (Box.newA w [_, _, _, _, _] _ rfl).alloc _
    have x1 : Box ((w.alloc (.cells #[.slice ea en ec, .int .i64 r, .int .i64 c, .slice aa an ac, .bool true] 48)).alloc (.cells #[.slice fa fn fc, .int .i64 r', .int .i64 c', .slice ba bn bc, .bool true] 48)) (w.heap.size + 1) [.slice fa fn fc, .int .i64 r', .int .i64 c', .slice ba bn bc, .bool true] := Box.newA _ [_, _, _, _, _] _ (by simp)
    have hB0 : Below w.heap.size w ((w.alloc (.cells #[.slice ea en ec, .int .i64 r, .int .i64 c, .slice aa an ac, .bool true] 48)).alloc (.cells #[.slice fa fn fc, .int .i64 r', .int .i64 c', .slice ba bn bc, .bool true] 48)) := ((Below.refl _ _).alloc (Nat.le_refl _) _).alloc (by simp) _
    have hz0 : ((w.alloc (.cells #[.slice ea en ec, .int .i64 r, .int .i64 c, .slice aa an ac, .bool true] 48)).alloc (.cells #[.slice fa fn fc, .int .i64 r', .int .i64 c', .slice ba bn bc, .bool true] 48)).heap.size = w.heap.size + 2 := by simp
    go_enter Try.func57, Try.ntmps57
    go_wp2
    go_ret
    exact ⟨rfl, hB0⟩

theorem ownsRow_at {W : World} {base n : Nat} {v : Value} {xs : List Value} (h : W.ownsRow base 23 1 v n xs) {k : Nat} (hk : k < n) : ∃ g cap, v = .slice (some ⟨g, 0, none⟩) n cap ∧ base ≤ g ∧ g < W.heap.size ∧ W.cell? ⟨g, k, none⟩ = xs[k]? := by
  rcases h.2 with ⟨_, h0⟩ | ⟨g, cap, cur, rfl, _⟩
  · omega
  · have := h.lt g rfl
    exact ⟨g, cap, rfl, this.1, this.2, h.cellAt k (by omega)⟩

set_option maxHeartbeats 8000000 in
theorem ref_take (w : World) (v o : Vw) (da : Option Addr) (n dc : Nat) (ts : List Nat) (x y : Value) (B db : Nat) {P : Nat → Prop} (h : RefV P w da n dc v x) (ho : RefV P w da n dc o y) (hP : ¬ P db) (hdl : db < w.heap.size)
    (hD : w.ownsRow B 23 1 (.slice da n dc) n (ts.map (Value.float .f64))) (hdb : ∀ g o, da = some ⟨g, o, none⟩ → g = db) (hin : ∀ p ∈ v.pls, p < ts.length) (hin' : ∀ p ∈ o.pls, p < ts.length) (hr : v.r ≤ 512) (hc : v.c ≤ 512) (hr' : o.r ≤ 512) (hc' : o.c ≤ 512) :
    Calls Try.prog 57 #[x, y] w fun e w' => e = .returned (.int .i64 (takeE v o)) ∧ w'.ownsRow B 23 1 (.slice da n dc) n ((v.take o ts ts).map (Value.float .f64)) ∧ Bel w.heap.size db w w' := by
  have hlt : ts.length = n := by have := hD.1; simpa using this
  have hdn : ∀ W, Below w.heap.size w W → W.ownsRow B 23 1 (.slice da n dc) n (ts.map (Value.float .f64)) := fun W hW => ownsRow_dn hD hW
  have hcel : Cel w da ts := by
    have hD' := hD
    exact Cel.owns (base := B) (n := n) (cap := dc) (by rw [hlt]; exact hD')
  have HL := Lib.hid (fun (W : World) (hW : Below w.heap.size w W) => ref_list W o da ts dc y (by rw [hlt]; exact ho.below hW) (hcel.below hW) hin' hr' hc')
  have hno : takeE v o ≠ 0 → v.take o ts ts = ts := fun hz => by unfold Vw.take; rw [if_neg hz]
  have hv := h
  have hvo := ho
  obtain ⟨ea, en, ec, aa, ac, rfl, h2, h3, h4, h5⟩ := h
  obtain ⟨fa, fn, fc, ba, bc, rfl, k2, k3, k4, k5⟩ := ho
  have go3 : ∀ (z : Int), takeE v o = z → z ≠ 0 → (Calls Try.prog 57 #[.agg #[.slice ea en ec, .int .i64 v.r, .int .i64 v.c, .slice aa (v.r * v.c) ac, .bool v.p.isSome], .agg #[.slice fa fn fc, .int .i64 o.r, .int .i64 o.c, .slice ba (o.r * o.c) bc, .bool o.p.isSome]] w fun e w' => e = .returned (.int .i64 z) ∧ Below w.heap.size w w') → Calls Try.prog 57 #[.agg #[.slice ea en ec, .int .i64 v.r, .int .i64 v.c, .slice aa (v.r * v.c) ac, .bool v.p.isSome], .agg #[.slice fa fn fc, .int .i64 o.r, .int .i64 o.c, .slice ba (o.r * o.c) bc, .bool o.p.isSome]] w fun e w' => e = .returned (.int .i64 (takeE v o)) ∧ w'.ownsRow B 23 1 (.slice da n dc) n ((v.take o ts ts).map (Value.float .f64)) ∧ Bel w.heap.size db w w' := by
    intro z hz hz0 hk
    refine hk.mono ?_
    rintro e w' ⟨rfl, hb⟩
    rw [hno (by rw [hz]; exact hz0), hz]
    exact ⟨rfl, hdn w' hb, Bel.of hb⟩
  cases i1 : v.p.isSome
  case false =>
    rw [i1] at go3
    refine go3 1 ?_ (by decide) (rtake_no1 w _ _ _ _ _ _ _ _ _ _ _ _ _ _ _ _ _)
    unfold takeE; rw [Option.isNone_eq_not_isSome_vt, i1]; rfl
  case true =>
    cases i2 : o.p.isSome
    case false =>
      rw [i1, i2] at go3
      refine go3 1 ?_ (by decide) (rtake_no2 w _ _ _ _ _ _ _ _ _ _ _ _ _ _ _ _)
      unfold takeE; rw [Option.isNone_eq_not_isSome_vt o.p, i2]; cases v.p.isNone <;> rfl
    case true =>
      have n1 : v.p.isNone = false := by rw [Option.isNone_eq_not_isSome_vt, i1]; rfl
      have n2 : o.p.isNone = false := by rw [Option.isNone_eq_not_isSome_vt, i2]; rfl
      by_cases hne : v.r ≠ o.r ∨ v.c ≠ o.c
      · rw [i1, i2] at go3
        refine go3 8 ?_ (by decide) (rtake_no3 w _ _ _ _ _ _ _ _ _ _ _ _ _ _ _ _ hne)
        unfold takeE
        rw [n1, n2, if_neg (by decide), if_pos hne]
      · have hz : takeE v o = 0 := by unfold takeE; rw [n1, n2, if_neg (by decide), if_neg hne]
        obtain ⟨_, _, er, ec'⟩ := takeE_zero hz
        rw [hz, take_tkN hz]
        obtain ⟨rfl, rfl, rfl⟩ := h2 i1
        rw [i2] at HL
        have hpv : ∀ k, k < v.r * v.c → v.pls[k]? = some (v.pl k) ∧ v.pl k < en := fun k hk => ⟨pls_get hk, by rw [← hlt]; exact hin _ (List.mem_of_getElem? (pls_get hk))⟩
        have hlg : ∀ k, k < v.r * v.c → (o.list ts)[k]? = some (ts.getD (o.pl k) 0) := fun k hk => by
          have hk2 : k < o.r * o.c := by rw [← er, ← ec']; exact hk
          rw [list_pls, List.getElem?_map, pls_get hk2]; rfl
        have hll : (o.list ts).length = v.r * v.c := by rw [list_length, er, ec']
        have hrc : v.r * v.c ≤ 262144 := Nat.mul_le_mul hr hc
        have HPV := Lib.hid hpv
        have HLG := Lib.hid hlg
        have HK := Lib.hid hrc
        have HE := Lib.hid (show v.r * v.c = o.r * o.c by rw [er, ec'])
        have t1 : ((v.r : Int) != (o.r : Int)) = false := by simp; omega
        have t2 : ((v.c : Int) != (o.c : Int)) = false := by simp; omega
        have HIT : Hid (∀ W, Bel w.heap.size db w W → Itc W aa v.pls) := fun W hW => h4.bel h5 hP hW
        clear hpv hlg hrc hz er ec' i1 i2 n1 n2 hne go3 hno h2 h3 k2 k3 k4 k5 hin hin' hcel hv hvo hr hc hr' hc' hdn h4 h5
        have HDD := Lib.hid hD
        clear hD
        rw [hll] at HL
        generalize o.list ts = ls at *
        generalize o.r * o.c = bn at *
        generalize v.r * v.c = an at *
        generalize v.r = r at *
        generalize v.c = c at *
        generalize o.r = r' at *
        generalize o.c = c' at *
        have x0 : Box ((w.alloc (.cells #[.slice ea en ec, .int .i64 r, .int .i64 c, .slice aa an ac, .bool true] 48)).alloc (.cells #[.slice fa fn fc, .int .i64 r', .int .i64 c', .slice ba bn bc, .bool true] 48)) w.heap.size [.slice ea en ec, .int .i64 r, .int .i64 c, .slice aa an ac, .bool true] := (Box.newA w [_, _, _, _, _] _ rfl).alloc _
        have x1 : Box ((w.alloc (.cells #[.slice ea en ec, .int .i64 r, .int .i64 c, .slice aa an ac, .bool true] 48)).alloc (.cells #[.slice fa fn fc, .int .i64 r', .int .i64 c', .slice ba bn bc, .bool true] 48)) (w.heap.size + 1) [.slice fa fn fc, .int .i64 r', .int .i64 c', .slice ba bn bc, .bool true] := Box.newA _ [_, _, _, _, _] _ (by simp)
        have hB0 : Below w.heap.size w ((w.alloc (.cells #[.slice ea en ec, .int .i64 r, .int .i64 c, .slice aa an ac, .bool true] 48)).alloc (.cells #[.slice fa fn fc, .int .i64 r', .int .i64 c', .slice ba bn bc, .bool true] 48)) := ((Below.refl _ _).alloc (Nat.le_refl _) _).alloc (by simp) _
        have hz0 : ((w.alloc (.cells #[.slice ea en ec, .int .i64 r, .int .i64 c, .slice aa an ac, .bool true] 48)).alloc (.cells #[.slice fa fn fc, .int .i64 r', .int .i64 c', .slice ba bn bc, .bool true] 48)).heap.size = w.heap.size + 2 := by simp
        go_enter Try.func57, Try.ntmps57
        go_wp2_with fail
        refine (HL.out _ hB0).mono ?_
        rintro e w1 ⟨sv, rfl, hrow, hb1⟩
        have y0 := x0.below hb1
        have hB1 := below_step hB0 hB0.size hb1
        have hs1 := hb1.size
        obtain ⟨la, lc, rfl⟩ := ownsRow_slice hrow
        have HRow := Lib.hid hrow
        clear HL x0 x1 hrow
        go_wp2
        go_loopw [6] (fun i wr => ∃ k : Nat, k ≤ an ∧ i = .int .i64 k ∧ wr.ownsRow B 23 1 (.slice ea en ec) en ((tkN v o ts ts k).map (Value.float .f64)) ∧ Bel w1.heap.size db w1 wr) (fun i _ => an - (intOf i).toNat)
        case atStart => exact ⟨0, Nat.zero_le _, rfl, ownsRow_dn HDD.out hB1, Bel.refl _ _ _⟩
        case round =>
          obtain ⟨k, hk, rfl, hrd, hB⟩ := hrel
          by_cases hlk : k < an
          · obtain ⟨hp1, hp2⟩ := HPV.out k hlk
            have hl1 := HLG.out k hlk
            obtain ⟨y1, y2, y3⟩ := (y0.bel (by omega) hB).facts
            have hBw : Bel w.heap.size db w wr := bel_step (Bel.of hB1) hB1.size hB
            obtain ⟨pb, po, rfl, hpb, hpc⟩ := HIT.out wr hBw (by intro e; rw [e] at hp1; cases hp1)
            have c1 := hpc k _ hp1
            obtain ⟨gl, lcap, e1, hg1, hg2, c2⟩ := ownsRow_at (ownsRow_bel HRow.out hB (by omega)) hlk
            simp only [Value.slice.injEq, true_and] at e1
            obtain ⟨rfl, rfl⟩ := e1
            have c3 : wr.cell? ⟨gl, k, none⟩ = some (.float .f64 (ts.getD (o.pl k) 0)) := by rw [c2, List.getElem?_map, hl1]; rfl
            obtain ⟨gd, dcap, e2, hg3, hg4, c4⟩ := ownsRow_at hrd hp2
            simp only [Value.slice.injEq, true_and] at e2
            obtain ⟨rfl, rfl⟩ := e2
            obtain rfl := hdb gd 0 rfl
            have hlen := tkN_length v o ts ts k
            have c5 : wr.cell? ⟨gd, v.pl k, none⟩ = some (.float .f64 ((tkN v o ts ts k).getD (v.pl k) 0)) := by rw [c4]; simp [show v.pl k < (tkN v o ts ts k).length by omega]
            have c6 := hrd.frozenAt (v.pl k)
            have HS : Hid (tkN v o ts ts (k + 1) = (tkN v o ts ts k).set (v.pl k) (ts.getD (o.pl k) 0)) := tkN_succ _ _ _ _ _
            have HRD := Lib.hid hrd
            generalize ts.getD (o.pl k) 0 = z at *
            generalize v.pl k = p at *
            clear c4 c2 hp1 hl1 hpc hrd
            have hk1 : k + 1 ≤ 262144 := by have := HK.out; omega
            go_wp2
            have hrd := HRD.out.drew
            refine wp_region_items 11 [(true, 0), (true, 1), (true, 2), (true, 3), (true, 4), (true, 5), (true, 6), (true, 7), (true, 8), (true, 9), (true, 10)] (fun W => (∀ i, W.cell? ⟨w.heap.size, i, none⟩ = ([.slice (some ⟨gd, 0, none⟩) en ec, .int .i64 r, .int .i64 c, .slice (some ⟨pb, po, none⟩) an ac, .bool true] : List Value)[i]?) ∧ W.cell? ⟨pb, po + k, none⟩ = some (.int .i64 (p : Int)) ∧ W.cell? ⟨gl, k, none⟩ = some (.float .f64 z)) (by kernel_rfl) (by kernel_rfl) ⟨y2, c1, c3⟩ ?_
            iterate 11 (refine iW_take (v := ?_) rfl rfl ?_ ?_; rotate_left; (next => (intro w' hSw; (try dsimp only at hSw); obtain ⟨hS1, hS2, hS3⟩ := hSw; go_simp; (try with_reducible rfl))); (simp only [Act.put, List.setIfInBounds_toArray, List.set_cons_zero, List.set_cons_succ]))
            refine iW_nil ?_
            (try simp only [List.drop])
            go_wp2
            refine NoPanic.normal ?_
            go_wp2
            go_roundw
            case rel =>
              refine ⟨k + 1, by omega, by go_num, ?_, ?_⟩
              · rw [HS.out, List.map_set]
                exact (hrd.stored p (.float .f64 z)).1
              · exact (bel_step hB hB.size (Bel.of (below_drewN 1 (Below.refl _ _)))).set _ _
            case measure => simp [intOf]; omega
          · obtain rfl : k = an := by omega
            have HRD := Lib.hid hrd
            clear hrd
            go_wp2
            go_ret
            exact ⟨rfl, HRD.out, bel_step (Bel.of hB1) hB1.size hB⟩
end Go.Proofs.Ytpjdibanjmmbkaa
