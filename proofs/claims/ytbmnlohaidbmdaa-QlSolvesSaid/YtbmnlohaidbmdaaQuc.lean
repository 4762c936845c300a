/- The document's layer 12: its Solve. No condition but on lengths. -/
import Derived.Test.YtbmnlohaidbmdaaQub
namespace Go.Proofs.Ytbmnlohaidbmdaa
open Go Go.RowKit
set_option maxRecDepth 1000000

set_option maxHeartbeats 32000000 in
theorem RSolve12 (w : World) (da ea za : Option Addr) (d e z : List Nat) (dc ec zc rows : Nat) (hd : Fls w da d) (he : Fls w ea e) (hz : Fls w za z) (hda : da = none → d = [] ∧ dc = 0) (hea : ea = none → e = [] ∧ ec = 0) (hza : za = none → z = [] ∧ zc = 0) (hWd : Words d) (hWe : Words e) (hn : d.length ≤ 512) (hr : rows ≤ 512) (hel : e.length = d.length - 1) (hzl : z.length = rows * d.length) :
    Calls Try.prog 14 #[.agg #[.slice da d.length dc, .slice ea e.length ec], .agg #[.int .i64 rows, .int .i64 d.length, .slice za z.length zc]] w (RSolveQ w d.length z.length rows (solQ d.length rows d.length ⟨d, e ++ [0], z⟩ 0)) := by
  have hrc : rows * d.length ≤ 262144 := Nat.le_trans (Nat.mul_le_mul hr hn) (by decide)
  have hld : d.length ≤ 9223372036854775807 := by omega
  have hle : e.length ≤ 512 := by omega
  obtain ⟨y, hy⟩ : ∃ y, y = solQ d.length rows d.length ⟨d, e ++ [0], z⟩ 0 := ⟨_, rfl⟩
  rw [← hy]
  have HY := Lib.hid hy
  obtain ⟨W0, hW0⟩ : ∃ W0, W0 = (((w.alloc (.cells #[.slice da d.length dc, .slice ea e.length ec] 24)).alloc (.cells #[.int .i64 rows, .int .i64 d.length, .slice za z.length zc] 26)).alloc (.cells #[.int .i64 0, .int .i64 0, .slice none 0 0] 26)) := ⟨_, rfl⟩
  have hB0 : Below w.heap.size w W0 := hW0 ▸ (((Below.refl _ _).alloc (Nat.le_refl _) _).alloc (by simp) _).alloc (by simp; omega) _
  have x2 : Box W0 w.heap.size [.slice da d.length dc, .slice ea e.length ec] := hW0 ▸ ((Box.newA w [_, _] _ rfl).alloc _).alloc _
  have x3 : Box W0 (w.heap.size + 1) [.int .i64 rows, .int .i64 d.length, .slice za z.length zc] := hW0 ▸ (Box.newA _ [_, _, _] _ (by simp)).alloc _
  have x5 : Box W0 (w.heap.size + 1 + 1) [.int .i64 0, .int .i64 0, .slice none 0 0] := hW0 ▸ Box.newA _ [_, _, _] _ (by simp)
  have hZ3 := Lib.hid (show _ ∧ _ ∧ _ from ⟨hd.below hB0, he.below hB0, hz.below hB0⟩)
  have HX := Lib.hid (show _ ∧ _ ∧ _ ∧ _ from ⟨hB0, x2, x3, x5⟩)
  have hs0 := x5.lt
  have HL := Lib.hid (show _ ∧ _ ∧ _ ∧ _ from ⟨hel, hzl, hWd, hWe⟩)
  have HNN := Lib.hid (show _ ∧ _ ∧ _ from ⟨hda, hea, hza⟩)
  have hzl2 : z.length ≤ 262144 := by omega
  clear hy hd he hz hB0 x2 x3 x5 hel hzl hWd hWe hda hea hza
  go_enter Try.func14, Try.ntmps14
  go_upto_region 1 with (fail)
  rw [← hW0]
  clear hW0
  obtain ⟨hB0, x2, x3, x5⟩ := HX.out
  obtain ⟨q1, q2, q3⟩ := x2.facts
  have HX0 := Lib.hid (show _ ∧ _ ∧ _ ∧ _ from ⟨hB0, x2, x3, x5⟩)
  clear HX hB0 x2 x3 x5
  go_upto_region 3 with (at_builtin; refine wpList_append_anyF rfl (.const (.slice none 0 0)) (.tmp 40) rfl W0.heap.size _ [] rfl (OwnF.nil _ _) da d dc rfl hZ3.out.1 HNN.out.1 (by simp; omega) (Nat.le_refl _) ?_; rintro v1 W1 hO1 hb1; obtain ⟨a1, bd, cd, rfl, kd1, kd2, kd3, hFd, kd4⟩ := hO1.fs; rw [List.nil_append] at hFd kd1 kd4 ⊢)
  obtain ⟨hB0, x2, x3, x5⟩ := HX0.out
  have hs1 := hb1.size
  have hB1 := below_step hB0 hB0.size hb1
  replace x2 := x2.below hb1
  replace x3 := x3.below hb1
  replace x5 := x5.below hb1
  clear q1 q2 q3
  obtain ⟨q1, q2, q3⟩ := x2.facts
  have HZe := Lib.hid (hZ3.out.2.1.below hb1)
  have HX1 := Lib.hid (show _ ∧ _ ∧ _ ∧ _ ∧ _ from ⟨hB1, x2, x3, x5, hFd⟩)
  clear hO1 hB0 hB1 x2 x3 x5 HX0 hFd
  go_upto_region 4 with (at_builtin; first | (refine wpList_append_anyF rfl (.const (.slice none 0 0)) (.tmp 43) rfl W1.heap.size _ [] rfl (OwnF.nil _ _) ea e ec rfl HZe.out HNN.out.2.1 (by simp; omega) (Nat.le_refl _) ?_; rintro v2 W2 hO2 hb2; rw [List.nil_append] at hO2) | (refine wpList_append_anyF rfl (.tmp 44) (.tmp 45) rfl W1.heap.size v2 e rfl (hO2.below ((Below.refl _ _).alloc (Nat.le_refl _) _)) _ [0] 1 rfl (Fls.one _ _ 0 (by kernel_rfl)) (fun h => by cases h) (by simp only [List.length_singleton]; omega) (by have := hb2.size; simp; omega) ?_; rintro v3 W3 hO3 hb3; obtain ⟨a2, be, ce, rfl, ke1, ke2, ke3, hFe, ke4⟩ := hO3.fs; rw [List.length_append, List.length_singleton]))
  obtain ⟨hB1, x2, x3, x5, hFd⟩ := HX1.out
  have hb13 : Below W1.heap.size W1 W3 := (below_step hb2 hb2.size ((Below.refl _ _).alloc (Nat.le_refl _) _)).trans hb3
  have hs3 := hb13.size
  have hB3 := below_step hB1 hB1.size hb13
  replace x3 := x3.below hb13
  replace x5 := x5.below hb13
  replace hFd := hFd.below hb13
  have HZz := Lib.hid (hZ3.out.2.2.below (below_step hb1 hb1.size hb13))
  have HC := Lib.hid (Copy9 W3 (rows : Int) (d.length : Int) za z zc HZz.out hzl2 HNN.out.2.2)
  clear q1 q2 q3
  obtain ⟨q1, q2, q3⟩ := x3.facts
  have HX3 := Lib.hid (show _ ∧ _ ∧ _ ∧ _ from ⟨hB3, x5, hFd, hFe⟩)
  clear hO2 hO3 hB1 hB3 x2 x3 x5 HX1 hFd hFe hb1 hb2 hb3 hb13 HZe HZz hZ3
  go_wp2_with fail
  refine HC.out.mono ?_
  rintro r W4 ⟨a3, zb, zc', rfl, hFz, kz3, kz4, kz1, kz2, hb4⟩
  obtain ⟨hB3, x5, hFd, hFe⟩ := HX3.out
  have hs4 := hb4.size
  have hB4 := below_step hB3 hB3.size hb4
  replace x5 := x5.below hb4
  replace hFd := hFd.below hb4
  replace hFe := hFe.below hb4
  obtain ⟨zb', hFz', hz1, hz2⟩ : ∃ zb', FS W4 a3 zb' z ∧ W3.heap.size ≤ zb' ∧ zb' ≠ W4.heap.size := by
    by_cases hz0 : z = []
    · exact ⟨W4.heap.size + 1, .inl hz0, by omega, by omega⟩
    · exact ⟨zb, hFz, kz3, by have := kz4 hz0; omega⟩
  have hb : Below W4.heap.size W4 (W4.alloc (.cells #[.int .i64 rows, .int .i64 d.length, .slice a3 z.length zc'] 26)) := (Below.refl _ _).alloc (Nat.le_refl _) _
  have hx := Box.newA W4 [.int .i64 rows, .int .i64 d.length, .slice a3 z.length zc'] 26 rfl
  replace x5 := x5.below hb
  replace hFd := hFd.below hb
  replace hFe := hFe.below hb
  replace hFz' := hFz'.below hb
  have hB5 := below_step hB4 hB4.size hb
  have he4 := ke4 (by simp)
  have HQ0 := Lib.hid (show _ ∧ _ from (⟨⟨fun h => by have := HL.out.1; omega, HL.out.2.1, ⟨kz1, kz2⟩, hn, hr, fun h e => by have := kd4 (by intro h0; rw [h0] at h; simp at h); omega, by omega, fun e => hz2 e.symm, fun h e => by have := kd4 (by intro h0; rw [h0] at h; simp at h); omega, fun h e => by have := kd4 (by intro h0; rw [h0] at h; simp at h); omega, by omega, by omega, fun _ => by omega, by omega, by omega⟩, ⟨hx, x5, hFd, hFe, hFz', rfl, by simp, rfl, HL.out.2.2.1, (fun x hx => by rw [List.mem_append, List.mem_singleton] at hx; rcases hx with h | h; exact HL.out.2.2.2 x h; rw [h]; decide), hB5⟩⟩ : QlD w W4.heap.size bd be zb' zc' rows d.length (e.length + 1) z.length ∧ RqW w (W4.alloc (.cells #[.int .i64 rows, .int .i64 d.length, .slice a3 z.length zc'] 26)) W4.heap.size a1 a2 a3 bd be zb' cd ce zc' rows d.length (e.length + 1) z.length ⟨d, e ++ [0], z⟩))
  clear q1 q2 q3 hb hx x5 hFd hFe hFz hFz' hB5 hB4 hB3 HC HX3 hb4
  clear kd1 kd2 kd3 kd4 ke1 ke2 ke3 ke4 kz1 kz2 kz3 kz4 hz1 hz2 he4 hs0 hs1 hs3 hs4
  go_wp2_with fail
  generalize W4.alloc (.cells #[.int .i64 rows, .int .i64 d.length, .slice a3 z.length zc'] 26) = W5 at *
  generalize W4.heap.size = X at *
  obtain ⟨ne, hne0⟩ : ∃ ne, ne = e.length + 1 := ⟨_, rfl⟩
  rw [← hne0] at HQ0 ⊢
  clear hne0
  have HD := Lib.hid HQ0.out.1
  go_loopw [12, 13] (fun s12 s13 wr => ∃ (l s : Nat) (S : QlS), s12 = .int .i64 s ∧ s13 = .int .i64 l ∧ l ≤ d.length ∧ s ≤ 30 * l ∧ solQ d.length rows (d.length - l) S s = y ∧ RqW w wr X a1 a2 a3 bd be zb' cd ce zc' rows d.length ne z.length S) (fun _ s13 _ => d.length - (intOf s13).toNat)
  case atStart => exact ⟨0, 0, _, rfl, rfl, Nat.zero_le _, Nat.zero_le _, HY.out.symm, HQ0.out.2⟩
  case round =>
    obtain ⟨l, s, S, rfl, rfl, hl, hs, hy, hQ⟩ := hrel
    have HQr := Lib.hid hQ
    have HYr := Lib.hid hy
    clear hy hQ
    by_cases hlt : l < d.length
    · have HYs := Lib.hid (solQ_step (rows := rows) (s := s) (S := S) hlt ▸ HYr.out)
      have hne : ne = d.length := HD.out.hne (by omega)
      subst hne
      obtain ⟨rfl, _⟩ := HQr.out.d.flb (by rw [HQr.out.dl]; omega)
      obtain ⟨rfl, _⟩ := HQr.out.e.flb (by rw [HQr.out.el]; omega)
      go_upto_block 2 with (fail)
      refine solve_value_q _ _ _ _ _ _ _ _ _ _ _ _ _ _ _ _ _ _ _ _ _ _ _ _ _ _ _ _ _ _ _ _ _ _ _ _ _ _ _ _ _ _ _ _ _ _ _ _ _ _ _ _ _ _ _ _ _ _ _ _ _ _ _ _ _ _ _ _ _ _ _ _ _ _ _ _ _ _ _ _ _ _ _ _ _ _ _ _ _ _ _ _ _ _ _ _ _ _ _ _ _ _ _ _ _ _ _ _ _ _ _ _ _ _ _ _ _ _ _ _ _ _ _ _ _ _ _ _ _ _ _ _ _ _ _ _ _ _ _ _ _ _ _ _ _ _ _ _ _ _ _ _ _ _ _ _ _ _ _ _ _ _ _ _ _ _ _ _ _ _ _ _ _ _ _ _ _ _ _ _ _ _ _ _ _ _ _ _ _ _ _ _ _ _ _ _ _ _ _ _ _ _ _ _ _ _ _ _ _ _ _ _ _ _ _ _ _ _ _ _ _ _ _ _ _ _ _ _ _ _ _ _ _ _ _ _ _ _ _ _ _ _ _ _ _ _ _ _ _ _ _ _ _ _ _ _ _ _ _ _ _ _ _ _ _ _ _ _ _ _ _ _ _ _ _ _ _ _ _ _ _ _ _ _ _ _ _ _ _ _ _ _ _ _ _ _ _ _ _ _ _ _ _ X bd be zb' rows d.length cd ce zc' l s z.length a3 S w wr HD.out HQr.out hlt hs _ ?_ ?_
      · intro u4 u6 u7 u12 u14 u15 u16 u17 u18 u19 u20 u21 u22 u23 u24 u25 u26 u27 u28 u29 u30 u31 u32 u33 u34 u35 u54 u55 u56 u57 u58 u59 u60 u61 u62 u63 u64 u65 u66 u67 u68 u69 u70 u71 u72 u73 u74 u75 u76 u77 u78 u79 u80 u81 u82 u83 u84 u85 u86 u87 u88 u89 u90 u91 u92 u93 u94 u95 u96 u97 u98 u99 u100 u101 u102 u103 u104 u105 u106 u107 u108 u109 u110 u111 u112 u113 u114 u115 u116 u117 u118 u119 u120 u121 u122 u123 u124 u125 u126 u127 u128 u129 u130 u131 u132 u133 u134 u135 u136 u137 u138 u139 u140 u141 u142 u143 u144 u145 u146 u147 u148 u149 u150 u151 u152 u153 u154 u155 u156 u157 u158 u159 u160 u161 u162 u163 u164 u165 u166 u167 u168 u169 u170 u171 u172 u173 u174 u175 u176 u177 u178 u179 u180 u181 u182 u183 u184 u185 u186 u187 u188 u189 u190 u191 u192 u193 u194 u195 u196 u197 u198 u199 u200 u201 u202 u203 u204 u205 u206 u207 u208 u209 u210 u211 u212 u213 u214 u215 u216 u217 u218 u219 u220 u221 u222 u223 u224 u225 u226 u227 u228 u229 u230 u231 u232 u233 u234 u235 u236 u237 u238 u239 u240 u241 u242 u243 u244 u245 u246 u247 u248 u249 u250 u251 u252 u253 u254 u255 u256 u257 u258 u259 u260 u261 u262 u263 u264 u265 u266 u267 u268 u269 u270 u271 u272 u273 u274 u275 u276 u277 u278 u279 u280 u281 u282 u283 u284 u285 u286 u287 u288 u289 u290 u291 u292 u293 u294 u295 u296 u297 u298 u299 w1 hcut
        obtain ⟨T, k, hv, hk, rfl, hT⟩ := hcut
        have HT := Lib.hid hT
        have hs2 := HYs.out
        rw [hv] at hs2
        have HS2 := Lib.hid hs2
        clear hs2 hv hT
        dsimp only
        go_wp2_with fail
        go_roundw
        case rel => exact ⟨l + 1, s + k, T, rfl, by go_num, hlt, by omega, by simpa using HS2.out, HT.out⟩
        case measure => simp [intOf]; omega
      · intro u4 u6 u7 u12 u14 u15 u16 u17 u18 u19 u20 u21 u22 u23 u24 u25 u26 u27 u28 u29 u30 u31 u32 u33 u34 u35 u54 u55 u56 u57 u58 u59 u60 u61 u62 u63 u64 u65 u66 u67 u68 u69 u70 u71 u72 u73 u74 u75 u76 u77 u78 u79 u80 u81 u82 u83 u84 u85 u86 u87 u88 u89 u90 u91 u92 u93 u94 u95 u96 u97 u98 u99 u100 u101 u102 u103 u104 u105 u106 u107 u108 u109 u110 u111 u112 u113 u114 u115 u116 u117 u118 u119 u120 u121 u122 u123 u124 u125 u126 u127 u128 u129 u130 u131 u132 u133 u134 u135 u136 u137 u138 u139 u140 u141 u142 u143 u144 u145 u146 u147 u148 u149 u150 u151 u152 u153 u154 u155 u156 u157 u158 u159 u160 u161 u162 u163 u164 u165 u166 u167 u168 u169 u170 u171 u172 u173 u174 u175 u176 u177 u178 u179 u180 u181 u182 u183 u184 u185 u186 u187 u188 u189 u190 u191 u192 u193 u194 u195 u196 u197 u198 u199 u200 u201 u202 u203 u204 u205 u206 u207 u208 u209 u210 u211 u212 u213 u214 u215 u216 u217 u218 u219 u220 u221 u222 u223 u224 u225 u226 u227 u228 u229 u230 u231 u232 u233 u234 u235 u236 u237 u238 u239 u240 u241 u242 u243 u244 u245 u246 u247 u248 u249 u250 u251 u252 u253 u254 u255 u256 u257 u258 u259 u260 u261 u262 u263 u264 u265 u266 u267 u268 u269 u270 u271 u272 u273 u274 u275 u276 u277 u278 u279 u280 u281 u282 u283 u284 u285 u286 u287 u288 u289 u290 u291 u292 u293 u294 u295 u296 u297 u298 u299 w1 hcut
        obtain ⟨T, k, hv, rfl, rfl, rfl, hbx, hbl⟩ := hcut
        have hs2 := HYs.out
        rw [hv] at hs2
        have HS2 := Lib.hid hs2
        have HB := Lib.hid (And.intro hbx hbl)
        clear hs2 hv hbx hbl
        dsimp only
        go_wp2_with fail
        refine bodyPost_ret (results_four rfl (rv_tmp rfl) (rv_cell (g := w.heap.size + 1 + 1) rfl HB.out.1 rfl Try.underlying26 (by kernel_rfl)) (rv_tmp rfl) (rv_tmp rfl)) rfl ?_
        have hy2 : y = (T, s + k, false) := by simpa using HS2.out.symm
        rw [hy2]
        unfold RSolveQ
        rw [if_neg (by simp)]
        exact ⟨rfl, HB.out.2⟩
    · obtain rfl : l = d.length := by omega
      have hy := HYr.out
      rw [Nat.sub_self, solQ] at hy
      have HY2 := Lib.hid hy.symm
      have hsl : s ≤ 30 * d.length := hs
      have hSd := HQr.out.dl
      have hSz := HQr.out.zl
      have HFi := Lib.hid (hSd ▸ RFin12 wr a1 S.d cd HQr.out.d.fls (by rw [hSd]; unfold maxLen; omega))
      have HSd := Lib.hid (And.intro hSd hSz)
      clear hy hSd hSz
      cases hfin : S.d.all ffin
      · rw [hfin] at HFi
        have H14 := Lib.hid hfin
        clear hfin
        go_wp2_with fail
        refine HFi.out.mono ?_
        rintro r w1 ⟨rfl, hb⟩
        dsimp only
        have hq1 := HQr.out.below hb
        obtain ⟨o1, o2, o3⟩ := hq1.br.facts
        have HQ1 := Lib.hid hq1
        clear hq1 hb
        go_wp2
        refine bodyPost_ret (results_four rfl (rv_tmp rfl) (rv_cell (g := w.heap.size + 1 + 1) rfl (HQ1.out.br.put3 _ _ _) rfl Try.underlying26 (by kernel_rfl)) (rv_tmp rfl) (rv_tmp rfl)) rfl ?_
        rw [HY2.out]
        unfold RSolveQ
        rw [if_neg (by simp [H14.out])]
        exact ⟨rfl, below_put3 HQ1.out.bel (by omega) _ _ _⟩
      · rw [hfin] at HFi
        have H14 := Lib.hid hfin
        clear hfin
        go_wp2_with fail
        refine HFi.out.mono ?_
        rintro r w1 ⟨rfl, hb⟩
        dsimp only
        have hq1 := HQr.out.below hb
        have hD := HD.out
        have hX0 := hD.X0
        obtain ⟨b1, k1, k2, k3, k4, k5⟩ : ∃ b1, FS w1 a1 b1 S.d ∧ b1 ≠ w1.heap.size ∧ b1 ≠ X ∧ w.heap.size + 1 + 1 < b1 ∧ (S.d ≠ [] → b1 = bd ∧ bd < w1.heap.size) := by
          by_cases h0 : S.d = []
          · exact ⟨w1.heap.size + 1, .inl h0, by omega, by have := hq1.box.lt; omega, by have := hq1.br.lt; omega, fun h => absurd h0 h⟩
          · have hpos := List.length_pos_iff.2 h0
            have hn0 : 0 < d.length := by rw [← hq1.dl]; exact hpos
            have hlt := (hq1.d.flb hpos).2.lt
            exact ⟨bd, hq1.d, by omega, fun e => hD.xd hn0 e.symm, hD.d0 hn0, fun _ => ⟨rfl, hlt⟩⟩
        obtain ⟨b2, j1, j2, j3, j4, j5⟩ : ∃ b2, FS w1 a3 b2 S.z ∧ b2 ≠ w1.heap.size ∧ b2 ≠ X ∧ w.heap.size + 1 + 1 < b2 ∧ (S.d ≠ [] → b2 ≠ bd) := by
          by_cases h0 : S.z = []
          · exact ⟨w1.heap.size + 1 + 1, .inl h0, by omega, by have := hq1.box.lt; omega, by have := hq1.br.lt; omega, fun h e => by have := (k5 h).2; omega⟩
          · have hpos := List.length_pos_iff.2 h0
            have hlt := (hq1.z.flb hpos).2.lt
            exact ⟨zb', hq1.z, by omega, fun e => hD.xz e.symm, hD.z0, fun h e => hD.dz (by rw [← hq1.dl]; exact List.length_pos_iff.2 h) e.symm⟩
        have hzr : S.z.length = rows * S.d.length := by rw [hq1.zl, hq1.dl, hD.hM]
        have HSo := Lib.hid (RSort12 w1 a1 a3 b1 b2 S.d S.z cd zc' rows (d.length : Int) k1 j1 (by rw [hq1.dl]; exact hn) hr hzr (fun h e => j5 h (e ▸ (k5 h).1)) k2 j2)
        rw [HSd.out.1, HSd.out.2] at HSo
        obtain ⟨p1, p2, p3⟩ := hq1.box.facts
        have HQ1 := Lib.hid (show _ ∧ _ ∧ _ ∧ _ ∧ _ from ⟨hq1, k3, k4, j3, j4⟩)
        clear hq1 hb k1 k2 k3 k4 k5 j1 j2 j3 j4 j5 hzr hD
        go_wp2_with fail
        refine HSo.out.mono ?_
        rintro r w2 ⟨rfl, hF1, hF2, hbl⟩
        dsimp only
        obtain ⟨hq1, k3, k4, j3, j4⟩ := HQ1.out
        have hbx := hq1.box.bls hbl hq1.box.lt (by simp only [List.mem_cons, List.not_mem_nil, or_false, not_or]; exact ⟨Ne.symm k3, Ne.symm j3⟩)
        have hbr := hq1.br.bls hbl hq1.br.lt (by simp only [List.mem_cons, List.not_mem_nil, or_false, not_or]; omega)
        have hbw : Below w.heap.size w w2 := ((Bls.of hq1.bel).trans (hbl.mono hq1.bel.size)).below (fun k hk => by
          simp only [List.mem_cons, List.not_mem_nil, or_false] at hk
          rcases hk with rfl | rfl <;> omega)
        have HE := Lib.hid (show _ ∧ _ ∧ _ ∧ _ ∧ _ ∧ _ ∧ _ from ⟨hbx, hbr, hbw, hF1, hF2, k4, j4⟩)
        clear hq1 hbx hbr hbw hF1 hF2 k3 k4 j3 j4 hbl p1 p2 p3 HQ1
        go_upto_region 65 with (fail)
        have hdr : Below w2.heap.size w2 w2.drew := below_drewN 1 (Below.refl _ w2)
        have hbx := HE.out.1.below hdr
        have hbr := HE.out.2.1.below hdr
        have hbx5 := Box.put3o hbx (show X ≠ w.heap.size + 1 + 1 by omega) (.int .i64 rows) (.int .i64 d.length) (.slice a3 z.length zc')
        have HZ := Lib.hid (show _ ∧ _ ∧ _ ∧ _ ∧ _ from ⟨hbr, below_step HE.out.2.2.1 HE.out.2.2.1.size hdr, HE.out.2.2.2.1.below hdr, HE.out.2.2.2.2.1.below hdr, hbx5⟩)
        have hbxc := hbx.cell
        have HZ3 := Lib.hid hbxc
        obtain ⟨o1, o2, o3⟩ := hbr.facts
        refine wp_region_items 5 [(true, 0), (true, 1), (true, 2), (true, 3), (false, 4)] (fun W => ∀ i, W.cell? ⟨X, i, none⟩ = ([.int .i64 rows, .int .i64 d.length, .slice a3 z.length zc'] : List Value)[i]?) (by kernel_rfl) (by kernel_rfl) hbxc ?_
        clear hbxc hbr hbx hbx5
        generalize w2.drew = w4 at *
        iterate 4 (refine iW_take (v := ?_) rfl rfl ?_ ?_; rotate_left; (next => (intro w' hSw; (try dsimp only at hSw); go_simp; (try with_reducible rfl))); (simp only [Act.put, List.setIfInBounds_toArray, List.set_cons_zero, List.set_cons_succ]))
        refine iW_mid rfl rfl ?_
        go_simp
        refine ⟨by first | exact HZ3.out | exact HZ.out.2.2.2.2.cell, ?_⟩
        refine iW_nil ?_
        go_simp
        go_wp2
        refine NoPanic.normal ?_
        go_wp2
        obtain ⟨hx5, hbw, hG1, hG2, _⟩ := HZ.out
        refine bodyPost_ret (results_four rfl (rv_tmp rfl) (rv_cell (g := w.heap.size + 1 + 1) rfl (hx5.put3 _ _ _) rfl Try.underlying26 (by kernel_rfl)) (rv_tmp rfl) (rv_tmp rfl)) rfl ?_
        rw [HY2.out]
        unfold RSolveQ
        rw [if_pos ⟨rfl, H14.out⟩]
        exact ⟨_, _, _, _, rfl, (FS.put3 hG1 (by have := HE.out.2.2.2.2.2.1; omega) _ _ _).fls, (FS.put3 hG2 (by have := HE.out.2.2.2.2.2.2; omega) _ _ _).fls, below_put3 hbw (by omega) _ _ _⟩
end Go.Proofs.Ytbmnlohaidbmdaa
