/- The document's layer 17, a part of its Solve: a column's signs turned (printed by gen_dd.py). No condition but on lengths. -/
import Derived.Test.YtdljnhdhigbefaaDcZ
namespace Go.Proofs.Ytdljnhdhigbefaa
open Go Go.RowKit
set_option maxRecDepth 1000000

set_option maxRecDepth 1000000 in
set_option maxHeartbeats 16000000 in
theorem sign_part (c0 c1 c2 c3 c4 c5 c6 c7 c8 c9 c10 c11 c12 c14 c15 c16 c17 c18 c19 c21 c22 c23 c24 c25 c26 c27 c28 c29 c30 c32 c33 c34 c35 c36 c37 c38 c39 c40 c41 c42 c43 c44 c45 c46 c47 c48 c49 c50 c51 c52 c53 c54 c55 c56 c57 c58 c59 c60 c61 c62 c63 c64 c65 c66 c67 c68 c69 c70 c71 c72 c73 c74 c75 c76 c77 c78 c79 c80 c81 c82 c83 c84 c85 c86 c87 c88 c89 c90 c91 c92 c93 c94 c95 c96 c97 c98 c99 c100 c101 c102 c103 c104 c105 c106 c107 c108 c109 c110 c111 c112 c113 c114 c115 c116 c117 c118 c119 c120 c121 c122 c123 c124 c125 c126 c127 c128 c129 c130 c131 c132 c133 c134 c135 c136 c137 c138 c139 c140 c141 c142 c143 c144 c145 c146 c147 c148 c149 c150 c151 c152 c153 c154 c155 c156 c157 c158 c159 c160 c161 c162 c163 c164 c165 c166 c167 c168 c169 c170 c171 c172 c173 c174 c175 c176 c177 c178 c179 c180 c181 c182 c183 c184 c185 c186 c187 c188 c189 c190 c191 c192 c193 c194 c195 c196 c197 c198 c199 c200 c201 c202 c203 c204 c205 c206 c207 c208 c209 c210 c211 c212 c213 c214 c215 c216 c217 c218 c219 c220 c221 c222 c223 c224 c225 c226 c227 c228 c229 c230 c231 c232 c233 c234 c235 c236 c237 c238 c239 c240 c241 c242 c243 c244 c245 c246 c247 c248 c249 c250 c251 c252 c253 c254 c255 c256 c257 c258 c259 c260 c261 c262 c263 c264 c265 c266 c267 c268 c269 c270 c271 c272 c273 c274 c275 c276 c277 c278 c279 c280 c281 c282 c283 c284 c285 c286 c287 c288 c289 c290 c291 c292 c293 c294 c295 c296 c297 c298 c299 c300 c301 c302 c303 c304 c305 c306 c307 c308 c309 c310 c311 c312 c313 c314 c315 c316 c317 c318 c319 c320 c321 c322 c323 c324 c325 c326 c327 c328 c329 c330 c331 c332 c333 c334 c335 c336 c337 c338 c339 c340 c341 c342 c343 c344 c345 c346 c347 c348 c349 c350 c351 c352 c353 c354 c355 c356 c357 c358 c359 c360 c361 c362 c363 c364 c365 c366 c367 c368 c369 c370 c371 c372 c373 c374 c375 c376 c377 c378 c379 c380 c381 c382 c383 c384 c385 c386 c387 c388 c389 c390 c391 c392 c393 c394 c395 c396 c397 c398 c399 c400 c401 c402 c403 c404 c405 c406 c407 c408 c409 c410 c411 c412 c413 c414 c415 c416 c417 c418 c419 c420 : Value) (p : RgP) (g : GkS) (k : Nat) (w0 w : World) (hG : RGk w0 w p g) (hk : k < p.n) (J K : Act → World → Prop) (Q' : Exit → Act → World → Prop)
    (hJ : ∀ (a' : Act) (w' : World), (∃ u31 u182 u183 u184 u185 u186 u187 u188 u189 u190 u191 u192 u193 u194 u195 u196 u197 u198 u199 u200 u201 u202 u203 u204 u205 u206 u207 : Value, (RGk w0 w' p { g with v := negL g.v p.n k p.rv }) ∧ a' = { tmps := #[c0, c1, c2, c3, c4, c5, c6, c7, c8, c9, c10, c11, c12, .pointer (some ⟨p.Z, 0, none⟩), c14, c15, c16, c17, c18, c19, .int .i64 k, c21, c22, c23, c24, c25, c26, c27, c28, c29, c30, u31, c32, c33, c34, c35, c36, c37, c38, c39, c40, c41, c42, c43, c44, c45, c46, c47, c48, c49, c50, c51, c52, c53, c54, c55, c56, c57, c58, c59, c60, c61, c62, c63, c64, c65, c66, c67, c68, c69, c70, c71, c72, c73, c74, c75, c76, c77, c78, c79, c80, c81, c82, c83, c84, c85, c86, c87, c88, c89, c90, c91, c92, c93, c94, c95, c96, c97, c98, c99, c100, c101, c102, c103, c104, c105, c106, c107, c108, c109, c110, c111, c112, c113, c114, c115, c116, c117, c118, c119, c120, c121, c122, c123, c124, c125, c126, c127, c128, c129, c130, c131, c132, c133, c134, c135, c136, c137, c138, c139, c140, c141, c142, c143, c144, c145, c146, c147, c148, c149, c150, c151, c152, c153, c154, c155, c156, c157, c158, c159, c160, c161, c162, c163, c164, c165, c166, c167, c168, c169, c170, c171, c172, c173, c174, c175, c176, c177, c178, c179, c180, c181, u182, u183, u184, u185, u186, u187, u188, u189, u190, u191, u192, u193, u194, u195, u196, u197, u198, u199, u200, u201, u202, u203, u204, u205, u206, u207, c208, c209, c210, c211, c212, c213, c214, c215, c216, c217, c218, c219, c220, c221, c222, c223, c224, c225, c226, c227, c228, c229, c230, c231, c232, c233, c234, c235, c236, c237, c238, c239, c240, c241, c242, c243, c244, c245, c246, c247, c248, c249, c250, c251, c252, c253, c254, c255, c256, c257, c258, c259, c260, c261, c262, c263, c264, c265, c266, c267, c268, c269, c270, c271, c272, c273, c274, c275, c276, c277, c278, c279, c280, c281, c282, c283, c284, c285, c286, c287, c288, c289, c290, c291, c292, c293, c294, c295, c296, c297, c298, c299, c300, c301, c302, c303, c304, c305, c306, c307, c308, c309, c310, c311, c312, c313, c314, c315, c316, c317, c318, c319, c320, c321, c322, c323, c324, c325, c326, c327, c328, c329, c330, c331, c332, c333, c334, c335, c336, c337, c338, c339, c340, c341, c342, c343, c344, c345, c346, c347, c348, c349, c350, c351, c352, c353, c354, c355, c356, c357, c358, c359, c360, c361, c362, c363, c364, c365, c366, c367, c368, c369, c370, c371, c372, c373, c374, c375, c376, c377, c378, c379, c380, c381, c382, c383, c384, c385, c386, c387, c388, c389, c390, c391, c392, c393, c394, c395, c396, c397, c398, c399, c400, c401, c402, c403, c404, c405, c406, c407, c408, c409, c410, c411, c412, c413, c414, c415, c416, c417, c418, c419, c420], defers := [] }) → J a' w') (hKJ : ∀ (a' : Act) (w' : World), Met J a' w' → K a' w') :
    Code.wp Try.prog ((findBlock (Try.f19.body.getD .skip) 10).getD .skip) (Exit.then K Q') { tmps := #[c0, c1, c2, c3, c4, c5, c6, c7, c8, c9, c10, c11, c12, .pointer (some ⟨p.Z, 0, none⟩), c14, c15, c16, c17, c18, c19, .int .i64 k, c21, c22, c23, c24, c25, c26, c27, c28, c29, c30, .int .i64 0, c32, c33, c34, c35, c36, c37, c38, c39, c40, c41, c42, c43, c44, c45, c46, c47, c48, c49, c50, c51, c52, c53, c54, c55, c56, c57, c58, c59, c60, c61, c62, c63, c64, c65, c66, c67, c68, c69, c70, c71, c72, c73, c74, c75, c76, c77, c78, c79, c80, c81, c82, c83, c84, c85, c86, c87, c88, c89, c90, c91, c92, c93, c94, c95, c96, c97, c98, c99, c100, c101, c102, c103, c104, c105, c106, c107, c108, c109, c110, c111, c112, c113, c114, c115, c116, c117, c118, c119, c120, c121, c122, c123, c124, c125, c126, c127, c128, c129, c130, c131, c132, c133, c134, c135, c136, c137, c138, c139, c140, c141, c142, c143, c144, c145, c146, c147, c148, c149, c150, c151, c152, c153, c154, c155, c156, c157, c158, c159, c160, c161, c162, c163, c164, c165, c166, c167, c168, c169, c170, c171, c172, c173, c174, c175, c176, c177, c178, c179, c180, c181, c182, c183, c184, c185, c186, c187, c188, c189, c190, c191, c192, c193, c194, c195, c196, c197, c198, c199, c200, c201, c202, c203, c204, c205, c206, c207, c208, c209, c210, c211, c212, c213, c214, c215, c216, c217, c218, c219, c220, c221, c222, c223, c224, c225, c226, c227, c228, c229, c230, c231, c232, c233, c234, c235, c236, c237, c238, c239, c240, c241, c242, c243, c244, c245, c246, c247, c248, c249, c250, c251, c252, c253, c254, c255, c256, c257, c258, c259, c260, c261, c262, c263, c264, c265, c266, c267, c268, c269, c270, c271, c272, c273, c274, c275, c276, c277, c278, c279, c280, c281, c282, c283, c284, c285, c286, c287, c288, c289, c290, c291, c292, c293, c294, c295, c296, c297, c298, c299, c300, c301, c302, c303, c304, c305, c306, c307, c308, c309, c310, c311, c312, c313, c314, c315, c316, c317, c318, c319, c320, c321, c322, c323, c324, c325, c326, c327, c328, c329, c330, c331, c332, c333, c334, c335, c336, c337, c338, c339, c340, c341, c342, c343, c344, c345, c346, c347, c348, c349, c350, c351, c352, c353, c354, c355, c356, c357, c358, c359, c360, c361, c362, c363, c364, c365, c366, c367, c368, c369, c370, c371, c372, c373, c374, c375, c376, c377, c378, c379, c380, c381, c382, c383, c384, c385, c386, c387, c388, c389, c390, c391, c392, c393, c394, c395, c396, c397, c398, c399, c400, c401, c402, c403, c404, c405, c406, c407, c408, c409, c410, c411, c412, c413, c414, c415, c416, c417, c418, c419, c420], defers := [] } w := by
  conv => arg 2; whnf
  have HKJ := Lib.hid hKJ
  have HJ := Lib.hid hJ
  have H0 := Lib.hid hG
  have HK := Lib.hid (show k < p.n ∧ k < 512 ∧ p.rv ≤ 512 ∧ p.n ≤ 512 from ⟨hk, by have := hG.hn; omega, hG.hn.2.2.2.2, hG.hn.2.2.1⟩)
  clear hJ hKJ hG hk
  go_wp2_with fail
  go_loopw [31] (fun s31 wr => ∃ r : Nat, r ≤ p.rv ∧ s31 = .int .i64 r ∧ RGk w0 wr p { g with v := negL g.v p.n k r }) (fun s31 _ => p.rv - (intOf s31).toNat)
  case atStart => exact ⟨0, Nat.zero_le _, rfl, H0.out⟩
  case round =>
    obtain ⟨r, hrr, rfl, hG⟩ := hrel
    have H1 := Lib.hid hG
    clear hG H0
    by_cases hlt : r < p.rv
    case pos =>
      have HLT := Lib.hid hlt
      have hr9 : r < 1000 := by have := HK.out.2.2.1; omega
      obtain ⟨L, hL⟩ : ∃ L, L = negL g.v p.n k r := ⟨_, rfl⟩
      rw [← hL] at H1
      have HL := Lib.hid hL
      clear hL
      have hN : p.rv * p.n ≤ 262144 := Nat.le_trans (Nat.mul_le_mul HK.out.2.2.1 HK.out.2.2.2) (by decide)
      have hlen : L.length = p.rv * p.n := H1.out.v.len
      have hp1 := place_ltq hlt HK.out.1
      have hL0 : L ≠ [] := fun e => by rw [e] at hlen; simp at hlen; omega
      obtain ⟨hav, hF⟩ : p.av = some ⟨p.bv, 0, none⟩ ∧ Flb wr p.bv L := H1.out.v.fs.resolve_left hL0
      have HA := Lib.hid (show _ ∧ _ ∧ _ from ⟨hav, hlen, H1.out.v.cap⟩)
      have hX : Box wr p.Z [.int .i64 p.rv, .int .i64 p.n, .slice (some ⟨p.bv, 0, none⟩) (p.rv * p.n) p.vc] := hav ▸ H1.out.xv
      clear hav hlen hL0
      obtain ⟨N, hNN⟩ : ∃ N, N = p.rv * p.n := ⟨_, rfl⟩
      have HNN := Lib.hid hNN
      rw [← hNN] at hp1 hN hX
      clear hNN
      obtain ⟨w1, w2⟩ := idxU hp1 hN
      obtain ⟨P, hP⟩ : ∃ P, P = r * p.n := ⟨_, rfl⟩
      rw [← hP] at hp1 w1 w2
      obtain ⟨w3, q1, q2, q3⟩ := idx17 hP hp1 hN
      have HP := Lib.hid hP
      clear hP
      obtain ⟨sx, cx⟩ := hF.at (i := P + k) (by rw [HA.out.2.1, ← HNN.out]; exact hp1)
      obtain ⟨x, hx⟩ : ∃ x, x = L.getD (P + k) 0 := ⟨_, rfl⟩
      rw [← hx] at cx
      have HX := Lib.hid (show x = L.getD (P + k) 0 ∧ x < 18446744073709551616 from ⟨hx, hx ▸ H1.out.v.words.at _⟩)
      have HPB := Lib.hid hp1
      clear hx
      obtain ⟨f01, f02, f03⟩ := hX.facts
      go_upto_region 46 with (fail)
      have hdr : Below wr.heap.size wr wr.drew := below_drewN 1 (Below.refl _ wr)
      have H2 := Lib.hid (show RGk w0 wr.drew p _ from H1.out.step hdr)
      have HF := Lib.hid (hF.below hdr)
      have HXX := Lib.hid (hX.below hdr)
      have hc : wr.drew.cell? ⟨p.bv, P + k, none⟩ = some (.float .f64 (raw x sx)) := ((below_cells hdr).1 _ _ hF.lt).trans cx
      have HC := Lib.hid hc
      clear H1 f01 f02 f03 cx hF hX
      refine wp_region_items 19 [(true, 0), (true, 1), (true, 2), (true, 3), (true, 4), (true, 5), (true, 6), (true, 7), (true, 8), (true, 9), (true, 10), (true, 11), (true, 12), (true, 13), (true, 14), (true, 15), (true, 16), (true, 17), (true, 18)] (fun W => (∀ i, W.cell? ⟨p.Z, i, none⟩ = ([.int .i64 p.rv, .int .i64 p.n, .slice (some ⟨p.bv, 0, none⟩) N p.vc] : List Value)[i]?) ∧ W.cell? ⟨p.bv, P + k, none⟩ = some (.float .f64 (raw x sx))) (by kernel_rfl) (by kernel_rfl) ⟨HXX.out.cell, hc⟩ ?_
      generalize wr.drew = y0 at *
      clear hdr hc
      iterate 19 (refine iW_take (v := ?_) rfl rfl ?_ ?_; rotate_left; (next => (intro w' hSw; (try dsimp only at hSw); go_simp; (try (rw [if_pos (by omega)]; go_simp)); (try with_reducible rfl))); (simp only [Act.put, List.setIfInBounds_toArray, List.set_cons_zero, List.set_cons_succ]))
      refine iW_nil ?_
      have g1 := HF.out.lt
      have g2 := HF.out.frozen
      have g3 := HC.out
      go_simp
      go_wp2_with fail
      refine NoPanic.normal ?_
      obtain ⟨sn, hsn⟩ := neg_raw x sx HX.out.2
      rw [hsn]
      clear hsn g1 g2 g3
      obtain ⟨y2, hy2⟩ : ∃ y2, y2 = y0.setCell ⟨p.bv, P + k, none⟩ (.float .f64 (raw (fneg x) sn)) := ⟨_, rfl⟩
      rw [← hy2]
      have H3 := Lib.hid (show RGk w0 y2 p { g with v := negL g.v p.n k (r + 1) } by
        have hv : MxF y2 p.rv p.n p.av p.vc p.bv (L.set (P + k) (fneg x)) := ⟨.inr ⟨HA.out.1, hy2 ▸ HF.out.set _ _ _⟩, by rw [List.length_set]; exact HA.out.2.1, by rw [List.length_set]; exact HA.out.2.2, words_setG H2.out.v.words (fneg_lt HX.out.2)⟩
        have h := H2.out.putV hv (hy2 ▸ (Bel.refl _ _ _).set _ _)
        rw [negL_succ, ← HL.out, ← HP.out, ← HX.out.1]; exact h)
      clear hy2 H2 HF HXX HC
      go_wp2_with fail
      go_roundw
      case rel => exact ⟨r + 1, HLT.out, by go_num, H3.out⟩
      case measure => simp [intOf]; omega
    case neg =>
      have hre : r = p.rv := by omega
      have H2 := Lib.hid (show RGk w0 wr p { g with v := negL g.v p.n k p.rv } from hre ▸ H1.out)
      obtain ⟨f01, f02, f03⟩ := H1.out.xv.facts
      clear H1 hre
      have hJ := HJ.out
      have hKJ := HKJ.out
      go_wp2_with fail
      go_meet
      case rel => exact H2.out
set_option maxRecDepth 1000000 in
theorem sign_part_q (c0 c1 c2 c3 c4 c5 c6 c7 c8 c9 c10 c11 c12 c14 c15 c16 c17 c18 c19 c21 c22 c23 c24 c25 c26 c27 c28 c29 c30 c32 c33 c34 c35 c36 c37 c38 c39 c40 c41 c42 c43 c44 c45 c46 c47 c48 c49 c50 c51 c52 c53 c54 c55 c56 c57 c58 c59 c60 c61 c62 c63 c64 c65 c66 c67 c68 c69 c70 c71 c72 c73 c74 c75 c76 c77 c78 c79 c80 c81 c82 c83 c84 c85 c86 c87 c88 c89 c90 c91 c92 c93 c94 c95 c96 c97 c98 c99 c100 c101 c102 c103 c104 c105 c106 c107 c108 c109 c110 c111 c112 c113 c114 c115 c116 c117 c118 c119 c120 c121 c122 c123 c124 c125 c126 c127 c128 c129 c130 c131 c132 c133 c134 c135 c136 c137 c138 c139 c140 c141 c142 c143 c144 c145 c146 c147 c148 c149 c150 c151 c152 c153 c154 c155 c156 c157 c158 c159 c160 c161 c162 c163 c164 c165 c166 c167 c168 c169 c170 c171 c172 c173 c174 c175 c176 c177 c178 c179 c180 c181 c182 c183 c184 c185 c186 c187 c188 c189 c190 c191 c192 c193 c194 c195 c196 c197 c198 c199 c200 c201 c202 c203 c204 c205 c206 c207 c208 c209 c210 c211 c212 c213 c214 c215 c216 c217 c218 c219 c220 c221 c222 c223 c224 c225 c226 c227 c228 c229 c230 c231 c232 c233 c234 c235 c236 c237 c238 c239 c240 c241 c242 c243 c244 c245 c246 c247 c248 c249 c250 c251 c252 c253 c254 c255 c256 c257 c258 c259 c260 c261 c262 c263 c264 c265 c266 c267 c268 c269 c270 c271 c272 c273 c274 c275 c276 c277 c278 c279 c280 c281 c282 c283 c284 c285 c286 c287 c288 c289 c290 c291 c292 c293 c294 c295 c296 c297 c298 c299 c300 c301 c302 c303 c304 c305 c306 c307 c308 c309 c310 c311 c312 c313 c314 c315 c316 c317 c318 c319 c320 c321 c322 c323 c324 c325 c326 c327 c328 c329 c330 c331 c332 c333 c334 c335 c336 c337 c338 c339 c340 c341 c342 c343 c344 c345 c346 c347 c348 c349 c350 c351 c352 c353 c354 c355 c356 c357 c358 c359 c360 c361 c362 c363 c364 c365 c366 c367 c368 c369 c370 c371 c372 c373 c374 c375 c376 c377 c378 c379 c380 c381 c382 c383 c384 c385 c386 c387 c388 c389 c390 c391 c392 c393 c394 c395 c396 c397 c398 c399 c400 c401 c402 c403 c404 c405 c406 c407 c408 c409 c410 c411 c412 c413 c414 c415 c416 c417 c418 c419 c420 : Value) (p : RgP) (g : GkS) (k : Nat) (w0 w : World) (hG : RGk w0 w p g) (hk : k < p.n) (Q : Exit → Act → World → Prop)
    (hQ : ∀ (u31 u182 u183 u184 u185 u186 u187 u188 u189 u190 u191 u192 u193 u194 u195 u196 u197 u198 u199 u200 u201 u202 u203 u204 u205 u206 u207 : Value) (w' : World), (RGk w0 w' p { g with v := negL g.v p.n k p.rv }) → Q .normal { tmps := #[c0, c1, c2, c3, c4, c5, c6, c7, c8, c9, c10, c11, c12, .pointer (some ⟨p.Z, 0, none⟩), c14, c15, c16, c17, c18, c19, .int .i64 k, c21, c22, c23, c24, c25, c26, c27, c28, c29, c30, u31, c32, c33, c34, c35, c36, c37, c38, c39, c40, c41, c42, c43, c44, c45, c46, c47, c48, c49, c50, c51, c52, c53, c54, c55, c56, c57, c58, c59, c60, c61, c62, c63, c64, c65, c66, c67, c68, c69, c70, c71, c72, c73, c74, c75, c76, c77, c78, c79, c80, c81, c82, c83, c84, c85, c86, c87, c88, c89, c90, c91, c92, c93, c94, c95, c96, c97, c98, c99, c100, c101, c102, c103, c104, c105, c106, c107, c108, c109, c110, c111, c112, c113, c114, c115, c116, c117, c118, c119, c120, c121, c122, c123, c124, c125, c126, c127, c128, c129, c130, c131, c132, c133, c134, c135, c136, c137, c138, c139, c140, c141, c142, c143, c144, c145, c146, c147, c148, c149, c150, c151, c152, c153, c154, c155, c156, c157, c158, c159, c160, c161, c162, c163, c164, c165, c166, c167, c168, c169, c170, c171, c172, c173, c174, c175, c176, c177, c178, c179, c180, c181, u182, u183, u184, u185, u186, u187, u188, u189, u190, u191, u192, u193, u194, u195, u196, u197, u198, u199, u200, u201, u202, u203, u204, u205, u206, u207, c208, c209, c210, c211, c212, c213, c214, c215, c216, c217, c218, c219, c220, c221, c222, c223, c224, c225, c226, c227, c228, c229, c230, c231, c232, c233, c234, c235, c236, c237, c238, c239, c240, c241, c242, c243, c244, c245, c246, c247, c248, c249, c250, c251, c252, c253, c254, c255, c256, c257, c258, c259, c260, c261, c262, c263, c264, c265, c266, c267, c268, c269, c270, c271, c272, c273, c274, c275, c276, c277, c278, c279, c280, c281, c282, c283, c284, c285, c286, c287, c288, c289, c290, c291, c292, c293, c294, c295, c296, c297, c298, c299, c300, c301, c302, c303, c304, c305, c306, c307, c308, c309, c310, c311, c312, c313, c314, c315, c316, c317, c318, c319, c320, c321, c322, c323, c324, c325, c326, c327, c328, c329, c330, c331, c332, c333, c334, c335, c336, c337, c338, c339, c340, c341, c342, c343, c344, c345, c346, c347, c348, c349, c350, c351, c352, c353, c354, c355, c356, c357, c358, c359, c360, c361, c362, c363, c364, c365, c366, c367, c368, c369, c370, c371, c372, c373, c374, c375, c376, c377, c378, c379, c380, c381, c382, c383, c384, c385, c386, c387, c388, c389, c390, c391, c392, c393, c394, c395, c396, c397, c398, c399, c400, c401, c402, c403, c404, c405, c406, c407, c408, c409, c410, c411, c412, c413, c414, c415, c416, c417, c418, c419, c420], defers := [] } w') :
    Code.wp Try.prog ((findBlock (Try.f19.body.getD .skip) 10).getD .skip) Q { tmps := #[c0, c1, c2, c3, c4, c5, c6, c7, c8, c9, c10, c11, c12, .pointer (some ⟨p.Z, 0, none⟩), c14, c15, c16, c17, c18, c19, .int .i64 k, c21, c22, c23, c24, c25, c26, c27, c28, c29, c30, .int .i64 0, c32, c33, c34, c35, c36, c37, c38, c39, c40, c41, c42, c43, c44, c45, c46, c47, c48, c49, c50, c51, c52, c53, c54, c55, c56, c57, c58, c59, c60, c61, c62, c63, c64, c65, c66, c67, c68, c69, c70, c71, c72, c73, c74, c75, c76, c77, c78, c79, c80, c81, c82, c83, c84, c85, c86, c87, c88, c89, c90, c91, c92, c93, c94, c95, c96, c97, c98, c99, c100, c101, c102, c103, c104, c105, c106, c107, c108, c109, c110, c111, c112, c113, c114, c115, c116, c117, c118, c119, c120, c121, c122, c123, c124, c125, c126, c127, c128, c129, c130, c131, c132, c133, c134, c135, c136, c137, c138, c139, c140, c141, c142, c143, c144, c145, c146, c147, c148, c149, c150, c151, c152, c153, c154, c155, c156, c157, c158, c159, c160, c161, c162, c163, c164, c165, c166, c167, c168, c169, c170, c171, c172, c173, c174, c175, c176, c177, c178, c179, c180, c181, c182, c183, c184, c185, c186, c187, c188, c189, c190, c191, c192, c193, c194, c195, c196, c197, c198, c199, c200, c201, c202, c203, c204, c205, c206, c207, c208, c209, c210, c211, c212, c213, c214, c215, c216, c217, c218, c219, c220, c221, c222, c223, c224, c225, c226, c227, c228, c229, c230, c231, c232, c233, c234, c235, c236, c237, c238, c239, c240, c241, c242, c243, c244, c245, c246, c247, c248, c249, c250, c251, c252, c253, c254, c255, c256, c257, c258, c259, c260, c261, c262, c263, c264, c265, c266, c267, c268, c269, c270, c271, c272, c273, c274, c275, c276, c277, c278, c279, c280, c281, c282, c283, c284, c285, c286, c287, c288, c289, c290, c291, c292, c293, c294, c295, c296, c297, c298, c299, c300, c301, c302, c303, c304, c305, c306, c307, c308, c309, c310, c311, c312, c313, c314, c315, c316, c317, c318, c319, c320, c321, c322, c323, c324, c325, c326, c327, c328, c329, c330, c331, c332, c333, c334, c335, c336, c337, c338, c339, c340, c341, c342, c343, c344, c345, c346, c347, c348, c349, c350, c351, c352, c353, c354, c355, c356, c357, c358, c359, c360, c361, c362, c363, c364, c365, c366, c367, c368, c369, c370, c371, c372, c373, c374, c375, c376, c377, c378, c379, c380, c381, c382, c383, c384, c385, c386, c387, c388, c389, c390, c391, c392, c393, c394, c395, c396, c397, c398, c399, c400, c401, c402, c403, c404, c405, c406, c407, c408, c409, c410, c411, c412, c413, c414, c415, c416, c417, c418, c419, c420], defers := [] } w := by
  refine wp_mono (sign_part c0 c1 c2 c3 c4 c5 c6 c7 c8 c9 c10 c11 c12 c14 c15 c16 c17 c18 c19 c21 c22 c23 c24 c25 c26 c27 c28 c29 c30 c32 c33 c34 c35 c36 c37 c38 c39 c40 c41 c42 c43 c44 c45 c46 c47 c48 c49 c50 c51 c52 c53 c54 c55 c56 c57 c58 c59 c60 c61 c62 c63 c64 c65 c66 c67 c68 c69 c70 c71 c72 c73 c74 c75 c76 c77 c78 c79 c80 c81 c82 c83 c84 c85 c86 c87 c88 c89 c90 c91 c92 c93 c94 c95 c96 c97 c98 c99 c100 c101 c102 c103 c104 c105 c106 c107 c108 c109 c110 c111 c112 c113 c114 c115 c116 c117 c118 c119 c120 c121 c122 c123 c124 c125 c126 c127 c128 c129 c130 c131 c132 c133 c134 c135 c136 c137 c138 c139 c140 c141 c142 c143 c144 c145 c146 c147 c148 c149 c150 c151 c152 c153 c154 c155 c156 c157 c158 c159 c160 c161 c162 c163 c164 c165 c166 c167 c168 c169 c170 c171 c172 c173 c174 c175 c176 c177 c178 c179 c180 c181 c182 c183 c184 c185 c186 c187 c188 c189 c190 c191 c192 c193 c194 c195 c196 c197 c198 c199 c200 c201 c202 c203 c204 c205 c206 c207 c208 c209 c210 c211 c212 c213 c214 c215 c216 c217 c218 c219 c220 c221 c222 c223 c224 c225 c226 c227 c228 c229 c230 c231 c232 c233 c234 c235 c236 c237 c238 c239 c240 c241 c242 c243 c244 c245 c246 c247 c248 c249 c250 c251 c252 c253 c254 c255 c256 c257 c258 c259 c260 c261 c262 c263 c264 c265 c266 c267 c268 c269 c270 c271 c272 c273 c274 c275 c276 c277 c278 c279 c280 c281 c282 c283 c284 c285 c286 c287 c288 c289 c290 c291 c292 c293 c294 c295 c296 c297 c298 c299 c300 c301 c302 c303 c304 c305 c306 c307 c308 c309 c310 c311 c312 c313 c314 c315 c316 c317 c318 c319 c320 c321 c322 c323 c324 c325 c326 c327 c328 c329 c330 c331 c332 c333 c334 c335 c336 c337 c338 c339 c340 c341 c342 c343 c344 c345 c346 c347 c348 c349 c350 c351 c352 c353 c354 c355 c356 c357 c358 c359 c360 c361 c362 c363 c364 c365 c366 c367 c368 c369 c370 c371 c372 c373 c374 c375 c376 c377 c378 c379 c380 c381 c382 c383 c384 c385 c386 c387 c388 c389 c390 c391 c392 c393 c394 c395 c396 c397 c398 c399 c400 c401 c402 c403 c404 c405 c406 c407 c408 c409 c410 c411 c412 c413 c414 c415 c416 c417 c418 c419 c420 p g k w0 w hG hk (fun a w => Q .normal a w) (fun a w => Q .normal a w) Q ?_ (fun _ _ h => h)) (fun e a w h => by cases e <;> exact h)
  intro a' w' h
  obtain ⟨u31, h⟩ := h
  obtain ⟨u182, h⟩ := h
  obtain ⟨u183, h⟩ := h
  obtain ⟨u184, h⟩ := h
  obtain ⟨u185, h⟩ := h
  obtain ⟨u186, h⟩ := h
  obtain ⟨u187, h⟩ := h
  obtain ⟨u188, h⟩ := h
  obtain ⟨u189, h⟩ := h
  obtain ⟨u190, h⟩ := h
  obtain ⟨u191, h⟩ := h
  obtain ⟨u192, h⟩ := h
  obtain ⟨u193, h⟩ := h
  obtain ⟨u194, h⟩ := h
  obtain ⟨u195, h⟩ := h
  obtain ⟨u196, h⟩ := h
  obtain ⟨u197, h⟩ := h
  obtain ⟨u198, h⟩ := h
  obtain ⟨u199, h⟩ := h
  obtain ⟨u200, h⟩ := h
  obtain ⟨u201, h⟩ := h
  obtain ⟨u202, h⟩ := h
  obtain ⟨u203, h⟩ := h
  obtain ⟨u204, h⟩ := h
  obtain ⟨u205, h⟩ := h
  obtain ⟨u206, h⟩ := h
  obtain ⟨u207, h⟩ := h
  obtain ⟨hr, rfl⟩ := h
  exact hQ u31 u182 u183 u184 u185 u186 u187 u188 u189 u190 u191 u192 u193 u194 u195 u196 u197 u198 u199 u200 u201 u202 u203 u204 u205 u206 u207 w' hr
end Go.Proofs.Ytdljnhdhigbefaa
