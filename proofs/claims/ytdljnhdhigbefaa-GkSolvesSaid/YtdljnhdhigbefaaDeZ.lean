/- The document's layer 17, a part of its Solve: a sweep's steps (printed by gen_de.py). No condition but on lengths. -/
import Derived.Test.YtdljnhdhigbefaaDdZ
namespace Go.Proofs.Ytdljnhdhigbefaa
open Go Go.RowKit
set_option maxRecDepth 1000000
set_option linter.unusedSimpArgs false
set_option linter.unusedVariables false

set_option maxRecDepth 1000000 in
set_option maxHeartbeats 32000000 in
theorem sweep_part (c0 c1 c2 c3 c4 c5 c6 c7 c8 c9 c10 c11 c16 c17 c18 c19 c21 c22 c23 c24 c25 c26 c27 c28 c29 c30 c31 c32 c34 c35 c36 c37 c38 c39 c44 c45 c46 c47 c48 c49 c50 c51 c52 c53 c54 c55 c56 c57 c58 c59 c60 c61 c62 c63 c64 c65 c66 c67 c68 c69 c70 c71 c72 c73 c74 c75 c76 c77 c78 c79 c80 c81 c82 c83 c84 c85 c86 c87 c88 c89 c90 c91 c92 c93 c94 c95 c96 c97 c98 c99 c100 c101 c102 c103 c104 c105 c106 c107 c108 c109 c110 c111 c112 c113 c114 c115 c116 c117 c118 c119 c120 c121 c122 c123 c124 c125 c126 c127 c128 c129 c130 c131 c132 c133 c134 c135 c136 c137 c138 c139 c140 c141 c142 c143 c144 c145 c146 c147 c148 c149 c150 c151 c152 c153 c154 c155 c156 c157 c158 c159 c160 c161 c162 c163 c164 c165 c166 c167 c168 c169 c170 c171 c172 c173 c174 c175 c176 c177 c178 c179 c180 c181 c182 c183 c184 c185 c186 c187 c188 c189 c190 c191 c192 c193 c194 c195 c196 c197 c198 c199 c200 c201 c202 c203 c204 c205 c206 c207 c208 c209 c210 c211 c212 c213 c214 c215 c216 c217 c218 c219 c220 c221 c222 c223 c224 c225 c226 c227 c228 c229 c230 c231 c232 c233 c234 c235 c236 c237 c238 c239 c240 c241 c242 c243 c244 c245 c246 c247 c248 c249 c250 c251 c252 c253 c254 c255 c256 c257 c258 c259 c260 c261 c262 c263 c264 c265 c266 c267 c268 c269 c270 c271 c272 c273 c274 c275 c276 c277 c278 c279 c280 c281 c282 c283 c284 c285 c286 c287 c288 c289 c290 c291 c292 c293 c294 c295 c296 c297 c298 c299 c300 c301 c302 c303 c304 c305 c306 c307 c308 c309 c310 c311 c312 c313 c314 c315 c316 c317 c318 c319 c320 c321 c322 c323 c324 c325 c326 c327 c328 c329 c330 c331 c332 c333 c334 c335 c336 c337 c338 c339 c340 c341 c342 c343 c344 c345 c346 c347 c348 c349 c350 c351 c352 c353 c354 c355 c356 c357 c358 c359 c360 c361 c362 c363 c364 c365 c366 c367 c368 c369 c370 c371 c372 c373 c374 c375 c376 c377 c378 c379 c380 c381 c382 c383 c384 c385 c386 c387 c388 c389 c390 c391 c392 c393 c394 c395 c396 c397 c398 c399 c400 c401 c402 c403 c404 c405 c406 c407 c408 c409 c410 c411 c412 c413 c414 c415 c416 c417 c418 c419 c420 : Value) (p : RgP) (g : GkS) (a0 sa0 f0 sf0 l k : Nat) (w0 w : World) (hG : RGk w0 w p g) (ha : a0 < 18446744073709551616) (hf : f0 < 18446744073709551616) (hlk : l < k) (hk : k < p.n) (J K : Act → World → Prop) (Q' : Exit → Act → World → Prop)
    (hJ : ∀ (a' : Act) (w' : World), (∃ u32 u33 u34 u35 u36 u37 u38 u40 u41 u42 u43 u44 u45 u290 u291 u292 u293 u294 u295 u296 u297 u298 u299 u300 u301 u302 u303 u304 u305 u306 u307 u308 u309 u310 u311 u312 u313 u314 u315 u316 u317 u318 u319 u320 u321 u322 u323 u324 u325 u326 u327 u328 u329 u330 u331 u332 u333 u334 u335 u336 u337 u338 u339 u340 u341 u342 u343 u344 u345 u346 u347 u348 u349 u350 u351 u352 u353 u354 u355 u356 u357 u358 u359 u360 u361 u362 u363 u364 u365 u366 u367 u368 u369 u370 u371 u372 u373 u374 u375 u376 u377 u378 u379 u380 u381 u382 u383 u384 u385 u386 u387 u388 u389 u390 u391 u392 u393 u394 u395 : Value, (∃ (y : SgS) (sf sa : Nat), y = sgL p.n p.ru p.rv l (k - l) ⟨g, f0, a0, 4607182418800017408, 4607182418800017408⟩ ∧ u40 = .float .f64 (raw y.f sf) ∧ u33 = .float .f64 (raw y.a sa) ∧ y.f < 18446744073709551616 ∧ y.a < 18446744073709551616 ∧ RGk w0 w' p y.x) ∧ a' = { tmps := #[c0, c1, c2, c3, c4, c5, c6, c7, c8, c9, c10, c11, .pointer (some ⟨p.Y, 0, none⟩), .pointer (some ⟨p.Z, 0, none⟩), .slice (some ⟨p.bd, 0, none⟩) p.n p.dc, .slice (some ⟨p.be, 0, none⟩) p.ne p.ec, c16, c17, c18, c19, .int .i64 k, c21, c22, c23, c24, c25, c26, c27, c28, c29, c30, c31, u32, u33, u34, u35, u36, u37, u38, c39, u40, u41, u42, u43, u44, u45, c46, c47, c48, c49, c50, c51, c52, c53, c54, c55, c56, c57, c58, c59, c60, c61, c62, c63, c64, c65, c66, c67, c68, c69, c70, c71, c72, c73, c74, c75, c76, c77, c78, c79, c80, c81, c82, c83, c84, c85, c86, c87, c88, c89, c90, c91, c92, c93, c94, c95, c96, c97, c98, c99, c100, c101, c102, c103, c104, c105, c106, c107, c108, c109, c110, c111, c112, c113, c114, c115, c116, c117, c118, c119, c120, c121, c122, c123, c124, c125, c126, c127, c128, c129, c130, c131, c132, c133, c134, c135, c136, c137, c138, c139, c140, c141, c142, c143, c144, c145, c146, c147, c148, c149, c150, c151, c152, c153, c154, c155, c156, c157, c158, c159, c160, c161, c162, c163, c164, c165, c166, c167, c168, c169, c170, c171, c172, c173, c174, c175, c176, c177, c178, c179, c180, c181, c182, c183, c184, c185, c186, c187, c188, c189, c190, c191, c192, c193, c194, c195, c196, c197, c198, c199, c200, c201, c202, c203, c204, c205, c206, c207, c208, c209, c210, c211, c212, c213, c214, c215, c216, c217, c218, c219, c220, c221, c222, c223, c224, c225, c226, c227, c228, c229, c230, c231, c232, c233, c234, c235, c236, c237, c238, c239, c240, c241, c242, c243, c244, c245, c246, c247, c248, c249, c250, c251, c252, c253, c254, c255, c256, c257, c258, c259, c260, c261, c262, c263, c264, c265, c266, c267, c268, c269, c270, c271, c272, c273, c274, c275, c276, c277, c278, c279, c280, c281, c282, c283, c284, c285, c286, c287, c288, c289, u290, u291, u292, u293, u294, u295, u296, u297, u298, u299, u300, u301, u302, u303, u304, u305, u306, u307, u308, u309, u310, u311, u312, u313, u314, u315, u316, u317, u318, u319, u320, u321, u322, u323, u324, u325, u326, u327, u328, u329, u330, u331, u332, u333, u334, u335, u336, u337, u338, u339, u340, u341, u342, u343, u344, u345, u346, u347, u348, u349, u350, u351, u352, u353, u354, u355, u356, u357, u358, u359, u360, u361, u362, u363, u364, u365, u366, u367, u368, u369, u370, u371, u372, u373, u374, u375, u376, u377, u378, u379, u380, u381, u382, u383, u384, u385, u386, u387, u388, u389, u390, u391, u392, u393, u394, u395, c396, c397, c398, c399, c400, c401, c402, c403, c404, c405, c406, c407, c408, c409, c410, c411, c412, c413, c414, c415, c416, c417, c418, c419, c420], defers := [] }) → J a' w') (hKJ : ∀ (a' : Act) (w' : World), Met J a' w' → K a' w') :
    Code.wp Try.prog ((findBlock (Try.f19.body.getD .skip) 12).getD .skip) (Exit.then K Q') { tmps := #[c0, c1, c2, c3, c4, c5, c6, c7, c8, c9, c10, c11, .pointer (some ⟨p.Y, 0, none⟩), .pointer (some ⟨p.Z, 0, none⟩), .slice (some ⟨p.bd, 0, none⟩) p.n p.dc, .slice (some ⟨p.be, 0, none⟩) p.ne p.ec, c16, c17, c18, c19, .int .i64 k, c21, c22, c23, c24, c25, c26, c27, c28, c29, c30, c31, c32, .float .f64 (raw a0 sa0), c34, c35, c36, c37, c38, c39, .float .f64 (raw f0 sf0), .float .f64 4607182418800017408, .float .f64 4607182418800017408, .int .i64 l, c44, c45, c46, c47, c48, c49, c50, c51, c52, c53, c54, c55, c56, c57, c58, c59, c60, c61, c62, c63, c64, c65, c66, c67, c68, c69, c70, c71, c72, c73, c74, c75, c76, c77, c78, c79, c80, c81, c82, c83, c84, c85, c86, c87, c88, c89, c90, c91, c92, c93, c94, c95, c96, c97, c98, c99, c100, c101, c102, c103, c104, c105, c106, c107, c108, c109, c110, c111, c112, c113, c114, c115, c116, c117, c118, c119, c120, c121, c122, c123, c124, c125, c126, c127, c128, c129, c130, c131, c132, c133, c134, c135, c136, c137, c138, c139, c140, c141, c142, c143, c144, c145, c146, c147, c148, c149, c150, c151, c152, c153, c154, c155, c156, c157, c158, c159, c160, c161, c162, c163, c164, c165, c166, c167, c168, c169, c170, c171, c172, c173, c174, c175, c176, c177, c178, c179, c180, c181, c182, c183, c184, c185, c186, c187, c188, c189, c190, c191, c192, c193, c194, c195, c196, c197, c198, c199, c200, c201, c202, c203, c204, c205, c206, c207, c208, c209, c210, c211, c212, c213, c214, c215, c216, c217, c218, c219, c220, c221, c222, c223, c224, c225, c226, c227, c228, c229, c230, c231, c232, c233, c234, c235, c236, c237, c238, c239, c240, c241, c242, c243, c244, c245, c246, c247, c248, c249, c250, c251, c252, c253, c254, c255, c256, c257, c258, c259, c260, c261, c262, c263, c264, c265, c266, c267, c268, c269, c270, c271, c272, c273, c274, c275, c276, c277, c278, c279, c280, c281, c282, c283, c284, c285, c286, c287, c288, c289, c290, c291, c292, c293, c294, c295, c296, c297, c298, c299, c300, c301, c302, c303, c304, c305, c306, c307, c308, c309, c310, c311, c312, c313, c314, c315, c316, c317, c318, c319, c320, c321, c322, c323, c324, c325, c326, c327, c328, c329, c330, c331, c332, c333, c334, c335, c336, c337, c338, c339, c340, c341, c342, c343, c344, c345, c346, c347, c348, c349, c350, c351, c352, c353, c354, c355, c356, c357, c358, c359, c360, c361, c362, c363, c364, c365, c366, c367, c368, c369, c370, c371, c372, c373, c374, c375, c376, c377, c378, c379, c380, c381, c382, c383, c384, c385, c386, c387, c388, c389, c390, c391, c392, c393, c394, c395, c396, c397, c398, c399, c400, c401, c402, c403, c404, c405, c406, c407, c408, c409, c410, c411, c412, c413, c414, c415, c416, c417, c418, c419, c420], defers := [] } w := by
  conv => arg 2; whnf
  have HKJ := Lib.hid hKJ
  have HJ := Lib.hid hJ
  have H0 := Lib.hid hG
  have HK := Lib.hid (show l < k ∧ k < p.n ∧ k < 512 ∧ k < p.ne ∧ 0 < p.n ∧ a0 < 18446744073709551616 ∧ f0 < 18446744073709551616 from ⟨hlk, hk, by have := hG.hn; omega, by have := hG.hn; omega, by omega, ha, hf⟩)
  clear hJ hKJ hG hlk hk ha hf
  go_wp2_with fail
  go_loopw [33, 40, 41, 42, 43] (fun s33 s40 s41 s42 s43 wr => ∃ (j : Nat) (y : SgS) (sa sf sc ss : Nat), l ≤ j ∧ j ≤ k ∧ s33 = .float .f64 (raw y.a sa) ∧ s40 = .float .f64 (raw y.f sf) ∧ s41 = .float .f64 (raw y.c sc) ∧ s42 = .float .f64 (raw y.s ss) ∧ s43 = .int .i64 j ∧ y = sgL p.n p.ru p.rv l (j - l) ⟨g, f0, a0, 4607182418800017408, 4607182418800017408⟩ ∧ (y.a < 18446744073709551616 ∧ y.f < 18446744073709551616 ∧ y.c < 18446744073709551616 ∧ y.s < 18446744073709551616) ∧ RGk w0 wr p y.x) (fun _ _ _ _ s43 _ => k - (intOf s43).toNat)
  case atStart => exact ⟨l, ⟨g, f0, a0, 4607182418800017408, 4607182418800017408⟩, sa0, sf0, 0, 0, Nat.le_refl _, by have := HK.out; omega, rfl, rfl, by show _ = Value.float .f64 (raw 4607182418800017408 0); rw [raw_of_not (by kernel_rfl)], by show _ = Value.float .f64 (raw 4607182418800017408 0); rw [raw_of_not (by kernel_rfl)], rfl, by rw [Nat.sub_self]; rfl, ⟨HK.out.2.2.2.2.2.1, HK.out.2.2.2.2.2.2, (show (4607182418800017408 : Nat) < 18446744073709551616 by decide), (show (4607182418800017408 : Nat) < 18446744073709551616 by decide)⟩, H0.out⟩
  case round =>
    obtain ⟨j, y, sa, sf, sc, ss, hlj, hjk, rfl, rfl, rfl, rfl, rfl, hy, hW, hS⟩ := hrel
    have H1 := Lib.hid hS
    have HY := Lib.hid hy
    have HWd := Lib.hid hW
    have HJJ := Lib.hid (And.intro hlj hjk)
    clear hS hy hW hlj hjk H0
    by_cases hjk : j < k
    case pos =>
      have HIK := Lib.hid (show j + 1 < p.n ∧ j + 1 < p.ne ∧ j < p.n ∧ j < p.ne ∧ j < 600 ∧ j < k ∧ l ≤ j from by have := HK.out; have := HJJ.out; exact ⟨by omega, by omega, by omega, by omega, by omega, hjk, by omega⟩)
      have w1 : wrap64 ((j : Int) + 1) = ((j + 1 : Nat) : Int) ∧ IntKind.i64.wrap ((j : Int) + 1) = ((j + 1 : Nat) : Int) := by have := HIK.out.2.2.2.2.1; exact ⟨by unfold wrap64; omega, by rw [IntKind.wrap_i64]; omega⟩
      obtain ⟨i, hi⟩ : ∃ i, i = j + 1 := ⟨_, rfl⟩
      rw [← hi] at w1 HIK
      have HI := Lib.hid hi
      clear hi
      obtain ⟨w11, w12⟩ := w1
      have hin := HIK.out.1
      have hie := HIK.out.2.1
      have hjn := HIK.out.2.2.1
      have hje := HIK.out.2.2.2.1
      have hj6 := HIK.out.2.2.2.2.1
      obtain ⟨ei, hei⟩ : ∃ x, x = y.x.e.getD i 0 := ⟨_, rfl⟩
      obtain ⟨di, hdi⟩ : ∃ x, x = y.x.d.getD i 0 := ⟨_, rfl⟩
      have HED := Lib.hid (show ei = y.x.e.getD i 0 ∧ di = y.x.d.getD i 0 from ⟨hei, hdi⟩)
      clear hei hdi
      obtain ⟨se_, ce_⟩ := H1.out.atE HK.out.2.2.2.2.1 hie
      have le_ := (H1.out.ltD HK.out.2.2.2.2.1).2
      have fe_ := H1.out.frE HK.out.2.2.2.2.1
      rw [← HED.out.1] at ce_
      obtain ⟨sd_, cd_⟩ := H1.out.atD hin
      have ld_ := (H1.out.ltD HK.out.2.2.2.2.1).1
      have fd_ := H1.out.frD HK.out.2.2.2.2.1
      rw [← HED.out.2] at cd_
      go_upto_region 69 with (fail)
      clear ce_ le_ fe_
      clear cd_ ld_ fd_
      clear w11 w12
      go_upto_region 70 with (first | (refine wpList_flt rfl rfl rfl rfl rfl ?_; intro K hK sh nsh; go_frame; refine hK _ _ ?_; clear hK K))
      simp only [fadd_rawl, fadd_rawr, fsub_rawl, fsub_rawr, fmul_rawl, fmul_rawr, fdiv_rawl, fdiv_rawr]
      have hb := below_drewN nsh (Below.refl wr.heap.size wr)
      have H2 := Lib.hid (H1.out.step hb)
      clear H1
      generalize wr.drewN nsh = v2 at *
      clear hb
      go_upto_region 71 with (first | (refine wpList_flt rfl rfl rfl rfl rfl ?_; intro K hK sg nsg; go_frame; refine hK _ _ ?_; clear hK K))
      simp only [fadd_rawl, fadd_rawr, fsub_rawl, fsub_rawr, fmul_rawl, fmul_rawr, fdiv_rawl, fdiv_rawr]
      have hb := below_drewN nsg (Below.refl v2.heap.size v2)
      have H3 := Lib.hid (H2.out.step hb)
      clear H2
      generalize v2.drewN nsg = v3 at *
      clear hb
      obtain ⟨hh, h_⟩ : ∃ x, x = fmul y.s ei := ⟨_, rfl⟩
      rw [← h_]
      have Ehh := Lib.hid h_
      clear h_
      obtain ⟨gg, h_⟩ : ∃ x, x = fmul y.c ei := ⟨_, rfl⟩
      rw [← h_]
      have Egg := Lib.hid h_
      clear h_
      go_wp2_with fail
      refine (RHypotF y.f sf hh sh HWd.out.2.1 (Ehh.out ▸ fmul_lt _ _) _).mono ?_
      rintro r v4 ⟨⟨szz, rfl⟩, hb⟩
      have H4 := Lib.hid (H3.out.step hb)
      clear H3
      clear hb
      dsimp only
      obtain ⟨zz, h_⟩ : ∃ x, x = hypW y.f hh := ⟨_, rfl⟩
      rw [← h_]
      have Ezz := Lib.hid h_
      clear h_
      obtain ⟨se_, ce_⟩ := H4.out.atE HK.out.2.2.2.2.1 hje
      have le_ := (H4.out.ltD HK.out.2.2.2.2.1).2
      have fe_ := H4.out.frE HK.out.2.2.2.2.1
      go_upto_region 73 with (fail)
      clear ce_ le_ fe_
      obtain ⟨v5, hw_⟩ : ∃ x, x = v4.setCell ⟨p.be, j, none⟩ (.float .f64 (raw zz szz)) := ⟨_, rfl⟩
      rw [← hw_]
      have H5 := Lib.hid (show RGk w0 v5 p _ from hw_ ▸ H4.out.setE HK.out.2.2.2.2.1 j zz szz (Ezz.out ▸ hypW_lt _ _))
      clear hw_ H4
      go_upto_region 74 with (first | (refine wpList_flt rfl rfl rfl rfl rfl ?_; intro K hK sc1 nsc1; go_frame; refine hK _ _ ?_; clear hK K))
      simp only [fadd_rawl, fadd_rawr, fsub_rawl, fsub_rawr, fmul_rawl, fmul_rawr, fdiv_rawl, fdiv_rawr]
      have hb := below_drewN nsc1 (Below.refl v5.heap.size v5)
      have H6 := Lib.hid (H5.out.step hb)
      clear H5
      generalize v5.drewN nsc1 = v6 at *
      clear hb
      go_upto_region 75 with (first | (refine wpList_flt rfl rfl rfl rfl rfl ?_; intro K hK ss1 nss1; go_frame; refine hK _ _ ?_; clear hK K))
      simp only [fadd_rawl, fadd_rawr, fsub_rawl, fsub_rawr, fmul_rawl, fmul_rawr, fdiv_rawl, fdiv_rawr]
      have hb := below_drewN nss1 (Below.refl v6.heap.size v6)
      have H7 := Lib.hid (H6.out.step hb)
      clear H6
      generalize v6.drewN nss1 = v7 at *
      clear hb
      obtain ⟨cc, h_⟩ : ∃ x, x = fdiv y.f zz := ⟨_, rfl⟩
      rw [← h_]
      have Ecc := Lib.hid h_
      clear h_
      obtain ⟨si, h_⟩ : ∃ x, x = fdiv hh zz := ⟨_, rfl⟩
      rw [← h_]
      have Esi := Lib.hid h_
      clear h_
      go_upto_region 76 with (first | (refine wpList_flt rfl rfl rfl rfl rfl ?_; intro K hK sp1 nsp1; go_frame; refine hK _ _ ?_; clear hK K))
      simp only [fadd_rawl, fadd_rawr, fsub_rawl, fsub_rawr, fmul_rawl, fmul_rawr, fdiv_rawl, fdiv_rawr]
      have hb := below_drewN nsp1 (Below.refl v7.heap.size v7)
      have H8 := Lib.hid (H7.out.step hb)
      clear H7
      generalize v7.drewN nsp1 = v8 at *
      clear hb
      go_upto_region 77 with (first | (refine wpList_flt rfl rfl rfl rfl rfl ?_; intro K hK sq1 nsq1; go_frame; refine hK _ _ ?_; clear hK K))
      simp only [fadd_rawl, fadd_rawr, fsub_rawl, fsub_rawr, fmul_rawl, fmul_rawr, fdiv_rawl, fdiv_rawr]
      have hb := below_drewN nsq1 (Below.refl v8.heap.size v8)
      have H9 := Lib.hid (H8.out.step hb)
      clear H8
      generalize v8.drewN nsq1 = v9 at *
      clear hb
      go_upto_region 78 with (first | (refine wpList_flt rfl rfl rfl rfl rfl ?_; intro K hK sx1 nsx1; go_frame; refine hK _ _ ?_; clear hK K))
      simp only [fadd_rawl, fadd_rawr, fsub_rawl, fsub_rawr, fmul_rawl, fmul_rawr, fdiv_rawl, fdiv_rawr]
      have hb := below_drewN nsx1 (Below.refl v9.heap.size v9)
      have H10 := Lib.hid (H9.out.step hb)
      clear H9
      generalize v9.drewN nsx1 = v10 at *
      clear hb
      obtain ⟨f1, h_⟩ : ∃ x, x = fadd (fmul y.a cc) (fmul gg si) := ⟨_, rfl⟩
      rw [← h_]
      have Ef1 := Lib.hid h_
      clear h_
      go_upto_region 79 with (first | (refine wpList_flt rfl rfl rfl rfl rfl ?_; intro K hK sp2 nsp2; go_frame; refine hK _ _ ?_; clear hK K))
      simp only [fadd_rawl, fadd_rawr, fsub_rawl, fsub_rawr, fmul_rawl, fmul_rawr, fdiv_rawl, fdiv_rawr]
      have hb := below_drewN nsp2 (Below.refl v10.heap.size v10)
      have H11 := Lib.hid (H10.out.step hb)
      clear H10
      generalize v10.drewN nsp2 = v11 at *
      clear hb
      go_upto_region 80 with (first | (refine wpList_flt rfl rfl rfl rfl rfl ?_; intro K hK sq2 nsq2; go_frame; refine hK _ _ ?_; clear hK K))
      simp only [fadd_rawl, fadd_rawr, fsub_rawl, fsub_rawr, fmul_rawl, fmul_rawr, fdiv_rawl, fdiv_rawr]
      have hb := below_drewN nsq2 (Below.refl v11.heap.size v11)
      have H12 := Lib.hid (H11.out.step hb)
      clear H11
      generalize v11.drewN nsq2 = v12 at *
      clear hb
      go_upto_region 81 with (first | (refine wpList_flt rfl rfl rfl rfl rfl ?_; intro K hK sg1 nsg1; go_frame; refine hK _ _ ?_; clear hK K))
      simp only [fadd_rawl, fadd_rawr, fsub_rawl, fsub_rawr, fmul_rawl, fmul_rawr, fdiv_rawl, fdiv_rawr]
      have hb := below_drewN nsg1 (Below.refl v12.heap.size v12)
      have H13 := Lib.hid (H12.out.step hb)
      clear H12
      generalize v12.drewN nsg1 = v13 at *
      clear hb
      obtain ⟨g1, h_⟩ : ∃ x, x = fsub (fmul gg cc) (fmul y.a si) := ⟨_, rfl⟩
      rw [← h_]
      have Eg1 := Lib.hid h_
      clear h_
      go_upto_region 82 with (fail)
      go_upto_region 83 with (first | (refine wpList_flt rfl rfl rfl rfl rfl ?_; intro K hK sh1 nsh1; go_frame; refine hK _ _ ?_; clear hK K))
      simp only [fadd_rawl, fadd_rawr, fsub_rawl, fsub_rawr, fmul_rawl, fmul_rawr, fdiv_rawl, fdiv_rawr]
      have hb := below_drewN nsh1 (Below.refl v13.heap.size v13)
      have H14 := Lib.hid (H13.out.step hb)
      clear H13
      generalize v13.drewN nsh1 = v14 at *
      clear hb
      go_upto_region 84 with (first | (refine wpList_flt rfl rfl rfl rfl rfl ?_; intro K hK sy1 nsy1; go_frame; refine hK _ _ ?_; clear hK K))
      simp only [fadd_rawl, fadd_rawr, fsub_rawl, fsub_rawr, fmul_rawl, fmul_rawr, fdiv_rawl, fdiv_rawr]
      have hb := below_drewN nsy1 (Below.refl v14.heap.size v14)
      have H15 := Lib.hid (H14.out.step hb)
      clear H14
      generalize v14.drewN nsy1 = v15 at *
      clear hb
      obtain ⟨h1, h_⟩ : ∃ x, x = fmul di si := ⟨_, rfl⟩
      rw [← h_]
      have Eh1 := Lib.hid h_
      clear h_
      obtain ⟨y1, h_⟩ : ∃ x, x = fmul di cc := ⟨_, rfl⟩
      rw [← h_]
      have Ey1 := Lib.hid h_
      clear h_
      obtain ⟨t1, t2, t3⟩ := H15.out.xv.facts
      go_wp2_with fail
      refine (rgk_turnV (j := j) (i := i) (c := cc) (sc := sc1) (s := si) (ss := ss1) H15.out hjn hin).mono ?_
      rintro r v16 ⟨rfl, hT⟩
      clear t1 t2 t3 H15
      have H16 := Lib.hid hT
      clear hT
      dsimp only
      go_wp2_with fail
      refine (RHypotF f1 sx1 h1 sh1 (Ef1.out ▸ fadd_lt _ _) (Eh1.out ▸ fmul_lt _ _) _).mono ?_
      rintro r v17 ⟨⟨sz2, rfl⟩, hb⟩
      have H17 := Lib.hid (H16.out.step hb)
      clear H16
      clear hb
      dsimp only
      obtain ⟨z2, h_⟩ : ∃ x, x = hypW f1 h1 := ⟨_, rfl⟩
      rw [← h_]
      have Ez2 := Lib.hid h_
      clear h_
      obtain ⟨sd_, cd_⟩ := H17.out.atD hjn
      have ld_ := (H17.out.ltD HK.out.2.2.2.2.1).1
      have fd_ := H17.out.frD HK.out.2.2.2.2.1
      go_upto_region 87 with (fail)
      clear cd_ ld_ fd_
      obtain ⟨v18, hw_⟩ : ∃ x, x = v17.setCell ⟨p.bd, j, none⟩ (.float .f64 (raw z2 sz2)) := ⟨_, rfl⟩
      rw [← hw_]
      have H18 := Lib.hid (show RGk w0 v18 p _ from hw_ ▸ H17.out.setD HK.out.2.2.2.2.1 j z2 sz2 (Ez2.out ▸ hypW_lt _ _))
      clear hw_ H17
      cases hq : feq z2 0
      case true =>
        go_upto_region 91 with (fail)
        have E := Lib.hid (show (cc = sgC2 y i ∧ si = sgS2 y i) ∧ zz = sgZ y i ∧ z2 = sgZ2 y i ∧ cc = sgC y i ∧ si = sgS y i ∧ g1 = sgG1 y i ∧ y1 = sgY1 y i from by
          have e1 : hh = sgH y i := by rw [Ehh.out, HED.out.1]; rfl
          have e0 : gg = sgG y i := by rw [Egg.out, HED.out.1]; rfl
          have e2 : zz = sgZ y i := by rw [Ezz.out, e1]; rfl
          have e3 : cc = sgC y i := by rw [Ecc.out, e2]; rfl
          have e4 : si = sgS y i := by rw [Esi.out, e1, e2]; rfl
          have e5 : f1 = sgF1 y i := by rw [Ef1.out, e0, e3, e4]; rfl
          have e6 : h1 = sgH1 y i := by rw [Eh1.out, e4, HED.out.2]; rfl
          have e7 : y1 = sgY1 y i := by rw [Ey1.out, e3, HED.out.2]; rfl
          have e9 : g1 = sgG1 y i := by rw [Eg1.out, e0, e3, e4]; rfl
          have e8 : z2 = sgZ2 y i := by rw [Ez2.out, e5, e6]; rfl
          have ec : cc = sgC2 y i ∧ si = sgS2 y i := by unfold sgC2 sgS2; rw [← e8, hq, if_pos rfl, if_pos rfl]; exact ⟨e3, e4⟩
          exact ⟨ec, e2, e8, e3, e4, e9, e7⟩)
        go_upto_region 92 with (first | (refine wpList_flt rfl rfl rfl rfl rfl ?_; intro K hK sp3 nsp3; go_frame; refine hK _ _ ?_; clear hK K))
        simp only [fadd_rawl, fadd_rawr, fsub_rawl, fsub_rawr, fmul_rawl, fmul_rawr, fdiv_rawl, fdiv_rawr]
        have hb := below_drewN nsp3 (Below.refl v18.heap.size v18)
        have H19 := Lib.hid (H18.out.step hb)
        clear H18
        generalize v18.drewN nsp3 = v19 at *
        clear hb
        go_upto_region 93 with (first | (refine wpList_flt rfl rfl rfl rfl rfl ?_; intro K hK sq3 nsq3; go_frame; refine hK _ _ ?_; clear hK K))
        simp only [fadd_rawl, fadd_rawr, fsub_rawl, fsub_rawr, fmul_rawl, fmul_rawr, fdiv_rawl, fdiv_rawr]
        have hb := below_drewN nsq3 (Below.refl v19.heap.size v19)
        have H20 := Lib.hid (H19.out.step hb)
        clear H19
        generalize v19.drewN nsq3 = v20 at *
        clear hb
        go_upto_region 94 with (first | (refine wpList_flt rfl rfl rfl rfl rfl ?_; intro K hK sf2 nsf2; go_frame; refine hK _ _ ?_; clear hK K))
        simp only [fadd_rawl, fadd_rawr, fsub_rawl, fsub_rawr, fmul_rawl, fmul_rawr, fdiv_rawl, fdiv_rawr]
        have hb := below_drewN nsf2 (Below.refl v20.heap.size v20)
        have H21 := Lib.hid (H20.out.step hb)
        clear H20
        generalize v20.drewN nsf2 = v21 at *
        clear hb
        go_upto_region 95 with (first | (refine wpList_flt rfl rfl rfl rfl rfl ?_; intro K hK sp4 nsp4; go_frame; refine hK _ _ ?_; clear hK K))
        simp only [fadd_rawl, fadd_rawr, fsub_rawl, fsub_rawr, fmul_rawl, fmul_rawr, fdiv_rawl, fdiv_rawr]
        have hb := below_drewN nsp4 (Below.refl v21.heap.size v21)
        have H22 := Lib.hid (H21.out.step hb)
        clear H21
        generalize v21.drewN nsp4 = v22 at *
        clear hb
        go_upto_region 96 with (first | (refine wpList_flt rfl rfl rfl rfl rfl ?_; intro K hK sq4 nsq4; go_frame; refine hK _ _ ?_; clear hK K))
        simp only [fadd_rawl, fadd_rawr, fsub_rawl, fsub_rawr, fmul_rawl, fmul_rawr, fdiv_rawl, fdiv_rawr]
        have hb := below_drewN nsq4 (Below.refl v22.heap.size v22)
        have H23 := Lib.hid (H22.out.step hb)
        clear H22
        generalize v22.drewN nsq4 = v23 at *
        clear hb
        go_upto_region 97 with (first | (refine wpList_flt rfl rfl rfl rfl rfl ?_; intro K hK sa2 nsa2; go_frame; refine hK _ _ ?_; clear hK K))
        simp only [fadd_rawl, fadd_rawr, fsub_rawl, fsub_rawr, fmul_rawl, fmul_rawr, fdiv_rawl, fdiv_rawr]
        have hb := below_drewN nsa2 (Below.refl v23.heap.size v23)
        have H24 := Lib.hid (H23.out.step hb)
        clear H23
        generalize v23.drewN nsa2 = v24 at *
        clear hb
        obtain ⟨t1, t2, t3⟩ := H24.out.xu.facts
        go_wp2_with fail
        refine (rgk_turnU (j := j) (i := i) (c := cc) (sc := sc1) (s := si) (ss := ss1) H24.out hjn hin).mono ?_
        rintro r v25 ⟨rfl, hT⟩
        clear t1 t2 t3 H24
        have H25 := Lib.hid hT
        clear hT
        dsimp only
        have HN := Lib.hid (show RGk w0 v25 p (sgN p.n p.ru p.rv y j).x by have h := H25.out; dsimp only at h; unfold sgN; dsimp only; rw [← HI.out, ← E.out.1.1, ← E.out.1.2, ← E.out.2.1, ← E.out.2.2.1, ← E.out.2.2.2.1, ← E.out.2.2.2.2.1]; exact h)
        clear H25
        have HF := Lib.hid (show (sgN p.n p.ru p.rv y j).f = fadd (fmul cc g1) (fmul si y1) ∧ (sgN p.n p.ru p.rv y j).a = fsub (fmul cc y1) (fmul si g1) ∧ (sgN p.n p.ru p.rv y j).c = cc ∧ (sgN p.n p.ru p.rv y j).s = si by
          unfold sgN; dsimp only; rw [← HI.out]; unfold sgF2 sgA2; rw [← E.out.1.1, ← E.out.1.2, ← E.out.2.2.2.2.2.1, ← E.out.2.2.2.2.2.2]; exact ⟨rfl, rfl, rfl, rfl⟩)
        have HC2 := Lib.hid (show cc < 18446744073709551616 ∧ si < 18446744073709551616 from ⟨Ecc.out ▸ fdiv_lt _ _, Esi.out ▸ fdiv_lt _ _⟩)
        have HYN := Lib.hid (show sgN p.n p.ru p.rv y j = sgL p.n p.ru p.rv l (j + 1 - l) ⟨g, f0, a0, 4607182418800017408, 4607182418800017408⟩ by have h := HIK.out.2.2.2.2.2.2; rw [show j + 1 - l = (j - l) + 1 by omega, sgL, ← HY.out, show l + (j - l) = j by omega])
        go_wp2_with fail
        go_roundw
        case rel => exact ⟨j + 1, sgN p.n p.ru p.rv y j, sa2, sf2, sc1, ss1, by have := HIK.out; omega, by have := HIK.out; omega, by rw [HF.out.2.1], by rw [HF.out.1], by rw [HF.out.2.2.1], by rw [HF.out.2.2.2], by go_num, HYN.out, ⟨by rw [HF.out.2.1]; exact fsub_lt _ _, by rw [HF.out.1]; exact fadd_lt _ _, by rw [HF.out.2.2.1]; exact HC2.out.1, by rw [HF.out.2.2.2]; exact HC2.out.2⟩, HN.out⟩
        case measure => simp [intOf]; omega
      case false =>
        go_upto_region 88 with (fail)
        go_upto_region 89 with (first | (refine wpList_flt rfl rfl rfl rfl rfl ?_; intro K hK su nsu; go_frame; refine hK _ _ ?_; clear hK K))
        simp only [fadd_rawl, fadd_rawr, fsub_rawl, fsub_rawr, fmul_rawl, fmul_rawr, fdiv_rawl, fdiv_rawr]
        have hb := below_drewN nsu (Below.refl v18.heap.size v18)
        have H19 := Lib.hid (H18.out.step hb)
        clear H18
        generalize v18.drewN nsu = v19 at *
        clear hb
        go_upto_region 90 with (first | (refine wpList_flt rfl rfl rfl rfl rfl ?_; intro K hK sc2 nsc2; go_frame; refine hK _ _ ?_; clear hK K))
        simp only [fadd_rawl, fadd_rawr, fsub_rawl, fsub_rawr, fmul_rawl, fmul_rawr, fdiv_rawl, fdiv_rawr]
        have hb := below_drewN nsc2 (Below.refl v19.heap.size v19)
        have H20 := Lib.hid (H19.out.step hb)
        clear H19
        generalize v19.drewN nsc2 = v20 at *
        clear hb
        go_upto_region 91 with (first | (refine wpList_flt rfl rfl rfl rfl rfl ?_; intro K hK ss2 nss2; go_frame; refine hK _ _ ?_; clear hK K))
        simp only [fadd_rawl, fadd_rawr, fsub_rawl, fsub_rawr, fmul_rawl, fmul_rawr, fdiv_rawl, fdiv_rawr]
        have hb := below_drewN nss2 (Below.refl v20.heap.size v20)
        have H21 := Lib.hid (H20.out.step hb)
        clear H20
        generalize v20.drewN nss2 = v21 at *
        clear hb
        obtain ⟨c2, h_⟩ : ∃ x, x = fmul f1 (fdiv 4607182418800017408 z2) := ⟨_, rfl⟩
        rw [← h_]
        have Ec2 := Lib.hid h_
        clear h_
        obtain ⟨s2, h_⟩ : ∃ x, x = fmul h1 (fdiv 4607182418800017408 z2) := ⟨_, rfl⟩
        rw [← h_]
        have Es2 := Lib.hid h_
        clear h_
        have E := Lib.hid (show (c2 = sgC2 y i ∧ s2 = sgS2 y i) ∧ zz = sgZ y i ∧ z2 = sgZ2 y i ∧ cc = sgC y i ∧ si = sgS y i ∧ g1 = sgG1 y i ∧ y1 = sgY1 y i from by
          have e1 : hh = sgH y i := by rw [Ehh.out, HED.out.1]; rfl
          have e0 : gg = sgG y i := by rw [Egg.out, HED.out.1]; rfl
          have e2 : zz = sgZ y i := by rw [Ezz.out, e1]; rfl
          have e3 : cc = sgC y i := by rw [Ecc.out, e2]; rfl
          have e4 : si = sgS y i := by rw [Esi.out, e1, e2]; rfl
          have e5 : f1 = sgF1 y i := by rw [Ef1.out, e0, e3, e4]; rfl
          have e6 : h1 = sgH1 y i := by rw [Eh1.out, e4, HED.out.2]; rfl
          have e7 : y1 = sgY1 y i := by rw [Ey1.out, e3, HED.out.2]; rfl
          have e9 : g1 = sgG1 y i := by rw [Eg1.out, e0, e3, e4]; rfl
          have e8 : z2 = sgZ2 y i := by rw [Ez2.out, e5, e6]; rfl
          have ec : c2 = sgC2 y i ∧ s2 = sgS2 y i := by unfold sgC2 sgS2; rw [← e8, hq, if_neg (by decide), if_neg (by decide)]; exact ⟨by rw [Ec2.out, e5], by rw [Es2.out, e6]⟩
          exact ⟨ec, e2, e8, e3, e4, e9, e7⟩)
        go_upto_region 92 with (first | (refine wpList_flt rfl rfl rfl rfl rfl ?_; intro K hK sp3 nsp3; go_frame; refine hK _ _ ?_; clear hK K))
        simp only [fadd_rawl, fadd_rawr, fsub_rawl, fsub_rawr, fmul_rawl, fmul_rawr, fdiv_rawl, fdiv_rawr]
        have hb := below_drewN nsp3 (Below.refl v21.heap.size v21)
        have H22 := Lib.hid (H21.out.step hb)
        clear H21
        generalize v21.drewN nsp3 = v22 at *
        clear hb
        go_upto_region 93 with (first | (refine wpList_flt rfl rfl rfl rfl rfl ?_; intro K hK sq3 nsq3; go_frame; refine hK _ _ ?_; clear hK K))
        simp only [fadd_rawl, fadd_rawr, fsub_rawl, fsub_rawr, fmul_rawl, fmul_rawr, fdiv_rawl, fdiv_rawr]
        have hb := below_drewN nsq3 (Below.refl v22.heap.size v22)
        have H23 := Lib.hid (H22.out.step hb)
        clear H22
        generalize v22.drewN nsq3 = v23 at *
        clear hb
        go_upto_region 94 with (first | (refine wpList_flt rfl rfl rfl rfl rfl ?_; intro K hK sf2 nsf2; go_frame; refine hK _ _ ?_; clear hK K))
        simp only [fadd_rawl, fadd_rawr, fsub_rawl, fsub_rawr, fmul_rawl, fmul_rawr, fdiv_rawl, fdiv_rawr]
        have hb := below_drewN nsf2 (Below.refl v23.heap.size v23)
        have H24 := Lib.hid (H23.out.step hb)
        clear H23
        generalize v23.drewN nsf2 = v24 at *
        clear hb
        go_upto_region 95 with (first | (refine wpList_flt rfl rfl rfl rfl rfl ?_; intro K hK sp4 nsp4; go_frame; refine hK _ _ ?_; clear hK K))
        simp only [fadd_rawl, fadd_rawr, fsub_rawl, fsub_rawr, fmul_rawl, fmul_rawr, fdiv_rawl, fdiv_rawr]
        have hb := below_drewN nsp4 (Below.refl v24.heap.size v24)
        have H25 := Lib.hid (H24.out.step hb)
        clear H24
        generalize v24.drewN nsp4 = v25 at *
        clear hb
        go_upto_region 96 with (first | (refine wpList_flt rfl rfl rfl rfl rfl ?_; intro K hK sq4 nsq4; go_frame; refine hK _ _ ?_; clear hK K))
        simp only [fadd_rawl, fadd_rawr, fsub_rawl, fsub_rawr, fmul_rawl, fmul_rawr, fdiv_rawl, fdiv_rawr]
        have hb := below_drewN nsq4 (Below.refl v25.heap.size v25)
        have H26 := Lib.hid (H25.out.step hb)
        clear H25
        generalize v25.drewN nsq4 = v26 at *
        clear hb
        go_upto_region 97 with (first | (refine wpList_flt rfl rfl rfl rfl rfl ?_; intro K hK sa2 nsa2; go_frame; refine hK _ _ ?_; clear hK K))
        simp only [fadd_rawl, fadd_rawr, fsub_rawl, fsub_rawr, fmul_rawl, fmul_rawr, fdiv_rawl, fdiv_rawr]
        have hb := below_drewN nsa2 (Below.refl v26.heap.size v26)
        have H27 := Lib.hid (H26.out.step hb)
        clear H26
        generalize v26.drewN nsa2 = v27 at *
        clear hb
        obtain ⟨t1, t2, t3⟩ := H27.out.xu.facts
        go_wp2_with fail
        refine (rgk_turnU (j := j) (i := i) (c := c2) (sc := sc2) (s := s2) (ss := ss2) H27.out hjn hin).mono ?_
        rintro r v28 ⟨rfl, hT⟩
        clear t1 t2 t3 H27
        have H28 := Lib.hid hT
        clear hT
        dsimp only
        have HN := Lib.hid (show RGk w0 v28 p (sgN p.n p.ru p.rv y j).x by have h := H28.out; dsimp only at h; unfold sgN; dsimp only; rw [← HI.out, ← E.out.1.1, ← E.out.1.2, ← E.out.2.1, ← E.out.2.2.1, ← E.out.2.2.2.1, ← E.out.2.2.2.2.1]; exact h)
        clear H28
        have HF := Lib.hid (show (sgN p.n p.ru p.rv y j).f = fadd (fmul c2 g1) (fmul s2 y1) ∧ (sgN p.n p.ru p.rv y j).a = fsub (fmul c2 y1) (fmul s2 g1) ∧ (sgN p.n p.ru p.rv y j).c = c2 ∧ (sgN p.n p.ru p.rv y j).s = s2 by
          unfold sgN; dsimp only; rw [← HI.out]; unfold sgF2 sgA2; rw [← E.out.1.1, ← E.out.1.2, ← E.out.2.2.2.2.2.1, ← E.out.2.2.2.2.2.2]; exact ⟨rfl, rfl, rfl, rfl⟩)
        have HC2 := Lib.hid (show c2 < 18446744073709551616 ∧ s2 < 18446744073709551616 from ⟨Ec2.out ▸ fmul_lt _ _, Es2.out ▸ fmul_lt _ _⟩)
        have HYN := Lib.hid (show sgN p.n p.ru p.rv y j = sgL p.n p.ru p.rv l (j + 1 - l) ⟨g, f0, a0, 4607182418800017408, 4607182418800017408⟩ by have h := HIK.out.2.2.2.2.2.2; rw [show j + 1 - l = (j - l) + 1 by omega, sgL, ← HY.out, show l + (j - l) = j by omega])
        go_wp2_with fail
        go_roundw
        case rel => exact ⟨j + 1, sgN p.n p.ru p.rv y j, sa2, sf2, sc2, ss2, by have := HIK.out; omega, by have := HIK.out; omega, by rw [HF.out.2.1], by rw [HF.out.1], by rw [HF.out.2.2.1], by rw [HF.out.2.2.2], by go_num, HYN.out, ⟨by rw [HF.out.2.1]; exact fsub_lt _ _, by rw [HF.out.1]; exact fadd_lt _ _, by rw [HF.out.2.2.1]; exact HC2.out.1, by rw [HF.out.2.2.2]; exact HC2.out.2⟩, HN.out⟩
        case measure => simp [intOf]; omega
    case neg =>
      obtain rfl : j = k := by have := HJJ.out; omega
      have hJ := HJ.out
      have hKJ := HKJ.out
      go_wp2_with fail
      go_meet
      case rel => exact ⟨y, sf, sa, HY.out, rfl, rfl, HWd.out.2.1, HWd.out.1, H1.out⟩
set_option maxRecDepth 1000000 in
theorem sweep_part_q (c0 c1 c2 c3 c4 c5 c6 c7 c8 c9 c10 c11 c16 c17 c18 c19 c21 c22 c23 c24 c25 c26 c27 c28 c29 c30 c31 c32 c34 c35 c36 c37 c38 c39 c44 c45 c46 c47 c48 c49 c50 c51 c52 c53 c54 c55 c56 c57 c58 c59 c60 c61 c62 c63 c64 c65 c66 c67 c68 c69 c70 c71 c72 c73 c74 c75 c76 c77 c78 c79 c80 c81 c82 c83 c84 c85 c86 c87 c88 c89 c90 c91 c92 c93 c94 c95 c96 c97 c98 c99 c100 c101 c102 c103 c104 c105 c106 c107 c108 c109 c110 c111 c112 c113 c114 c115 c116 c117 c118 c119 c120 c121 c122 c123 c124 c125 c126 c127 c128 c129 c130 c131 c132 c133 c134 c135 c136 c137 c138 c139 c140 c141 c142 c143 c144 c145 c146 c147 c148 c149 c150 c151 c152 c153 c154 c155 c156 c157 c158 c159 c160 c161 c162 c163 c164 c165 c166 c167 c168 c169 c170 c171 c172 c173 c174 c175 c176 c177 c178 c179 c180 c181 c182 c183 c184 c185 c186 c187 c188 c189 c190 c191 c192 c193 c194 c195 c196 c197 c198 c199 c200 c201 c202 c203 c204 c205 c206 c207 c208 c209 c210 c211 c212 c213 c214 c215 c216 c217 c218 c219 c220 c221 c222 c223 c224 c225 c226 c227 c228 c229 c230 c231 c232 c233 c234 c235 c236 c237 c238 c239 c240 c241 c242 c243 c244 c245 c246 c247 c248 c249 c250 c251 c252 c253 c254 c255 c256 c257 c258 c259 c260 c261 c262 c263 c264 c265 c266 c267 c268 c269 c270 c271 c272 c273 c274 c275 c276 c277 c278 c279 c280 c281 c282 c283 c284 c285 c286 c287 c288 c289 c290 c291 c292 c293 c294 c295 c296 c297 c298 c299 c300 c301 c302 c303 c304 c305 c306 c307 c308 c309 c310 c311 c312 c313 c314 c315 c316 c317 c318 c319 c320 c321 c322 c323 c324 c325 c326 c327 c328 c329 c330 c331 c332 c333 c334 c335 c336 c337 c338 c339 c340 c341 c342 c343 c344 c345 c346 c347 c348 c349 c350 c351 c352 c353 c354 c355 c356 c357 c358 c359 c360 c361 c362 c363 c364 c365 c366 c367 c368 c369 c370 c371 c372 c373 c374 c375 c376 c377 c378 c379 c380 c381 c382 c383 c384 c385 c386 c387 c388 c389 c390 c391 c392 c393 c394 c395 c396 c397 c398 c399 c400 c401 c402 c403 c404 c405 c406 c407 c408 c409 c410 c411 c412 c413 c414 c415 c416 c417 c418 c419 c420 : Value) (p : RgP) (g : GkS) (a0 sa0 f0 sf0 l k : Nat) (w0 w : World) (hG : RGk w0 w p g) (ha : a0 < 18446744073709551616) (hf : f0 < 18446744073709551616) (hlk : l < k) (hk : k < p.n) (Q : Exit → Act → World → Prop)
    (hQ : ∀ (u32 u33 u34 u35 u36 u37 u38 u40 u41 u42 u43 u44 u45 u290 u291 u292 u293 u294 u295 u296 u297 u298 u299 u300 u301 u302 u303 u304 u305 u306 u307 u308 u309 u310 u311 u312 u313 u314 u315 u316 u317 u318 u319 u320 u321 u322 u323 u324 u325 u326 u327 u328 u329 u330 u331 u332 u333 u334 u335 u336 u337 u338 u339 u340 u341 u342 u343 u344 u345 u346 u347 u348 u349 u350 u351 u352 u353 u354 u355 u356 u357 u358 u359 u360 u361 u362 u363 u364 u365 u366 u367 u368 u369 u370 u371 u372 u373 u374 u375 u376 u377 u378 u379 u380 u381 u382 u383 u384 u385 u386 u387 u388 u389 u390 u391 u392 u393 u394 u395 : Value) (w' : World), (∃ (y : SgS) (sf sa : Nat), y = sgL p.n p.ru p.rv l (k - l) ⟨g, f0, a0, 4607182418800017408, 4607182418800017408⟩ ∧ u40 = .float .f64 (raw y.f sf) ∧ u33 = .float .f64 (raw y.a sa) ∧ y.f < 18446744073709551616 ∧ y.a < 18446744073709551616 ∧ RGk w0 w' p y.x) → Q .normal { tmps := #[c0, c1, c2, c3, c4, c5, c6, c7, c8, c9, c10, c11, .pointer (some ⟨p.Y, 0, none⟩), .pointer (some ⟨p.Z, 0, none⟩), .slice (some ⟨p.bd, 0, none⟩) p.n p.dc, .slice (some ⟨p.be, 0, none⟩) p.ne p.ec, c16, c17, c18, c19, .int .i64 k, c21, c22, c23, c24, c25, c26, c27, c28, c29, c30, c31, u32, u33, u34, u35, u36, u37, u38, c39, u40, u41, u42, u43, u44, u45, c46, c47, c48, c49, c50, c51, c52, c53, c54, c55, c56, c57, c58, c59, c60, c61, c62, c63, c64, c65, c66, c67, c68, c69, c70, c71, c72, c73, c74, c75, c76, c77, c78, c79, c80, c81, c82, c83, c84, c85, c86, c87, c88, c89, c90, c91, c92, c93, c94, c95, c96, c97, c98, c99, c100, c101, c102, c103, c104, c105, c106, c107, c108, c109, c110, c111, c112, c113, c114, c115, c116, c117, c118, c119, c120, c121, c122, c123, c124, c125, c126, c127, c128, c129, c130, c131, c132, c133, c134, c135, c136, c137, c138, c139, c140, c141, c142, c143, c144, c145, c146, c147, c148, c149, c150, c151, c152, c153, c154, c155, c156, c157, c158, c159, c160, c161, c162, c163, c164, c165, c166, c167, c168, c169, c170, c171, c172, c173, c174, c175, c176, c177, c178, c179, c180, c181, c182, c183, c184, c185, c186, c187, c188, c189, c190, c191, c192, c193, c194, c195, c196, c197, c198, c199, c200, c201, c202, c203, c204, c205, c206, c207, c208, c209, c210, c211, c212, c213, c214, c215, c216, c217, c218, c219, c220, c221, c222, c223, c224, c225, c226, c227, c228, c229, c230, c231, c232, c233, c234, c235, c236, c237, c238, c239, c240, c241, c242, c243, c244, c245, c246, c247, c248, c249, c250, c251, c252, c253, c254, c255, c256, c257, c258, c259, c260, c261, c262, c263, c264, c265, c266, c267, c268, c269, c270, c271, c272, c273, c274, c275, c276, c277, c278, c279, c280, c281, c282, c283, c284, c285, c286, c287, c288, c289, u290, u291, u292, u293, u294, u295, u296, u297, u298, u299, u300, u301, u302, u303, u304, u305, u306, u307, u308, u309, u310, u311, u312, u313, u314, u315, u316, u317, u318, u319, u320, u321, u322, u323, u324, u325, u326, u327, u328, u329, u330, u331, u332, u333, u334, u335, u336, u337, u338, u339, u340, u341, u342, u343, u344, u345, u346, u347, u348, u349, u350, u351, u352, u353, u354, u355, u356, u357, u358, u359, u360, u361, u362, u363, u364, u365, u366, u367, u368, u369, u370, u371, u372, u373, u374, u375, u376, u377, u378, u379, u380, u381, u382, u383, u384, u385, u386, u387, u388, u389, u390, u391, u392, u393, u394, u395, c396, c397, c398, c399, c400, c401, c402, c403, c404, c405, c406, c407, c408, c409, c410, c411, c412, c413, c414, c415, c416, c417, c418, c419, c420], defers := [] } w') :
    Code.wp Try.prog ((findBlock (Try.f19.body.getD .skip) 12).getD .skip) Q { tmps := #[c0, c1, c2, c3, c4, c5, c6, c7, c8, c9, c10, c11, .pointer (some ⟨p.Y, 0, none⟩), .pointer (some ⟨p.Z, 0, none⟩), .slice (some ⟨p.bd, 0, none⟩) p.n p.dc, .slice (some ⟨p.be, 0, none⟩) p.ne p.ec, c16, c17, c18, c19, .int .i64 k, c21, c22, c23, c24, c25, c26, c27, c28, c29, c30, c31, c32, .float .f64 (raw a0 sa0), c34, c35, c36, c37, c38, c39, .float .f64 (raw f0 sf0), .float .f64 4607182418800017408, .float .f64 4607182418800017408, .int .i64 l, c44, c45, c46, c47, c48, c49, c50, c51, c52, c53, c54, c55, c56, c57, c58, c59, c60, c61, c62, c63, c64, c65, c66, c67, c68, c69, c70, c71, c72, c73, c74, c75, c76, c77, c78, c79, c80, c81, c82, c83, c84, c85, c86, c87, c88, c89, c90, c91, c92, c93, c94, c95, c96, c97, c98, c99, c100, c101, c102, c103, c104, c105, c106, c107, c108, c109, c110, c111, c112, c113, c114, c115, c116, c117, c118, c119, c120, c121, c122, c123, c124, c125, c126, c127, c128, c129, c130, c131, c132, c133, c134, c135, c136, c137, c138, c139, c140, c141, c142, c143, c144, c145, c146, c147, c148, c149, c150, c151, c152, c153, c154, c155, c156, c157, c158, c159, c160, c161, c162, c163, c164, c165, c166, c167, c168, c169, c170, c171, c172, c173, c174, c175, c176, c177, c178, c179, c180, c181, c182, c183, c184, c185, c186, c187, c188, c189, c190, c191, c192, c193, c194, c195, c196, c197, c198, c199, c200, c201, c202, c203, c204, c205, c206, c207, c208, c209, c210, c211, c212, c213, c214, c215, c216, c217, c218, c219, c220, c221, c222, c223, c224, c225, c226, c227, c228, c229, c230, c231, c232, c233, c234, c235, c236, c237, c238, c239, c240, c241, c242, c243, c244, c245, c246, c247, c248, c249, c250, c251, c252, c253, c254, c255, c256, c257, c258, c259, c260, c261, c262, c263, c264, c265, c266, c267, c268, c269, c270, c271, c272, c273, c274, c275, c276, c277, c278, c279, c280, c281, c282, c283, c284, c285, c286, c287, c288, c289, c290, c291, c292, c293, c294, c295, c296, c297, c298, c299, c300, c301, c302, c303, c304, c305, c306, c307, c308, c309, c310, c311, c312, c313, c314, c315, c316, c317, c318, c319, c320, c321, c322, c323, c324, c325, c326, c327, c328, c329, c330, c331, c332, c333, c334, c335, c336, c337, c338, c339, c340, c341, c342, c343, c344, c345, c346, c347, c348, c349, c350, c351, c352, c353, c354, c355, c356, c357, c358, c359, c360, c361, c362, c363, c364, c365, c366, c367, c368, c369, c370, c371, c372, c373, c374, c375, c376, c377, c378, c379, c380, c381, c382, c383, c384, c385, c386, c387, c388, c389, c390, c391, c392, c393, c394, c395, c396, c397, c398, c399, c400, c401, c402, c403, c404, c405, c406, c407, c408, c409, c410, c411, c412, c413, c414, c415, c416, c417, c418, c419, c420], defers := [] } w := by
  refine wp_mono (sweep_part c0 c1 c2 c3 c4 c5 c6 c7 c8 c9 c10 c11 c16 c17 c18 c19 c21 c22 c23 c24 c25 c26 c27 c28 c29 c30 c31 c32 c34 c35 c36 c37 c38 c39 c44 c45 c46 c47 c48 c49 c50 c51 c52 c53 c54 c55 c56 c57 c58 c59 c60 c61 c62 c63 c64 c65 c66 c67 c68 c69 c70 c71 c72 c73 c74 c75 c76 c77 c78 c79 c80 c81 c82 c83 c84 c85 c86 c87 c88 c89 c90 c91 c92 c93 c94 c95 c96 c97 c98 c99 c100 c101 c102 c103 c104 c105 c106 c107 c108 c109 c110 c111 c112 c113 c114 c115 c116 c117 c118 c119 c120 c121 c122 c123 c124 c125 c126 c127 c128 c129 c130 c131 c132 c133 c134 c135 c136 c137 c138 c139 c140 c141 c142 c143 c144 c145 c146 c147 c148 c149 c150 c151 c152 c153 c154 c155 c156 c157 c158 c159 c160 c161 c162 c163 c164 c165 c166 c167 c168 c169 c170 c171 c172 c173 c174 c175 c176 c177 c178 c179 c180 c181 c182 c183 c184 c185 c186 c187 c188 c189 c190 c191 c192 c193 c194 c195 c196 c197 c198 c199 c200 c201 c202 c203 c204 c205 c206 c207 c208 c209 c210 c211 c212 c213 c214 c215 c216 c217 c218 c219 c220 c221 c222 c223 c224 c225 c226 c227 c228 c229 c230 c231 c232 c233 c234 c235 c236 c237 c238 c239 c240 c241 c242 c243 c244 c245 c246 c247 c248 c249 c250 c251 c252 c253 c254 c255 c256 c257 c258 c259 c260 c261 c262 c263 c264 c265 c266 c267 c268 c269 c270 c271 c272 c273 c274 c275 c276 c277 c278 c279 c280 c281 c282 c283 c284 c285 c286 c287 c288 c289 c290 c291 c292 c293 c294 c295 c296 c297 c298 c299 c300 c301 c302 c303 c304 c305 c306 c307 c308 c309 c310 c311 c312 c313 c314 c315 c316 c317 c318 c319 c320 c321 c322 c323 c324 c325 c326 c327 c328 c329 c330 c331 c332 c333 c334 c335 c336 c337 c338 c339 c340 c341 c342 c343 c344 c345 c346 c347 c348 c349 c350 c351 c352 c353 c354 c355 c356 c357 c358 c359 c360 c361 c362 c363 c364 c365 c366 c367 c368 c369 c370 c371 c372 c373 c374 c375 c376 c377 c378 c379 c380 c381 c382 c383 c384 c385 c386 c387 c388 c389 c390 c391 c392 c393 c394 c395 c396 c397 c398 c399 c400 c401 c402 c403 c404 c405 c406 c407 c408 c409 c410 c411 c412 c413 c414 c415 c416 c417 c418 c419 c420 p g a0 sa0 f0 sf0 l k w0 w hG ha hf hlk hk (fun a w => Q .normal a w) (fun a w => Q .normal a w) Q ?_ (fun _ _ h => h)) (fun e a w h => by cases e <;> exact h)
  intro a' w' h
  obtain ⟨u32, h⟩ := h
  obtain ⟨u33, h⟩ := h
  obtain ⟨u34, h⟩ := h
  obtain ⟨u35, h⟩ := h
  obtain ⟨u36, h⟩ := h
  obtain ⟨u37, h⟩ := h
  obtain ⟨u38, h⟩ := h
  obtain ⟨u40, h⟩ := h
  obtain ⟨u41, h⟩ := h
  obtain ⟨u42, h⟩ := h
  obtain ⟨u43, h⟩ := h
  obtain ⟨u44, h⟩ := h
  obtain ⟨u45, h⟩ := h
  obtain ⟨u290, h⟩ := h
  obtain ⟨u291, h⟩ := h
  obtain ⟨u292, h⟩ := h
  obtain ⟨u293, h⟩ := h
  obtain ⟨u294, h⟩ := h
  obtain ⟨u295, h⟩ := h
  obtain ⟨u296, h⟩ := h
  obtain ⟨u297, h⟩ := h
  obtain ⟨u298, h⟩ := h
  obtain ⟨u299, h⟩ := h
  obtain ⟨u300, h⟩ := h
  obtain ⟨u301, h⟩ := h
  obtain ⟨u302, h⟩ := h
  obtain ⟨u303, h⟩ := h
  obtain ⟨u304, h⟩ := h
  obtain ⟨u305, h⟩ := h
  obtain ⟨u306, h⟩ := h
  obtain ⟨u307, h⟩ := h
  obtain ⟨u308, h⟩ := h
  obtain ⟨u309, h⟩ := h
  obtain ⟨u310, h⟩ := h
  obtain ⟨u311, h⟩ := h
  obtain ⟨u312, h⟩ := h
  obtain ⟨u313, h⟩ := h
  obtain ⟨u314, h⟩ := h
  obtain ⟨u315, h⟩ := h
  obtain ⟨u316, h⟩ := h
  obtain ⟨u317, h⟩ := h
  obtain ⟨u318, h⟩ := h
  obtain ⟨u319, h⟩ := h
  obtain ⟨u320, h⟩ := h
  obtain ⟨u321, h⟩ := h
  obtain ⟨u322, h⟩ := h
  obtain ⟨u323, h⟩ := h
  obtain ⟨u324, h⟩ := h
  obtain ⟨u325, h⟩ := h
  obtain ⟨u326, h⟩ := h
  obtain ⟨u327, h⟩ := h
  obtain ⟨u328, h⟩ := h
  obtain ⟨u329, h⟩ := h
  obtain ⟨u330, h⟩ := h
  obtain ⟨u331, h⟩ := h
  obtain ⟨u332, h⟩ := h
  obtain ⟨u333, h⟩ := h
  obtain ⟨u334, h⟩ := h
  obtain ⟨u335, h⟩ := h
  obtain ⟨u336, h⟩ := h
  obtain ⟨u337, h⟩ := h
  obtain ⟨u338, h⟩ := h
  obtain ⟨u339, h⟩ := h
  obtain ⟨u340, h⟩ := h
  obtain ⟨u341, h⟩ := h
  obtain ⟨u342, h⟩ := h
  obtain ⟨u343, h⟩ := h
  obtain ⟨u344, h⟩ := h
  obtain ⟨u345, h⟩ := h
  obtain ⟨u346, h⟩ := h
  obtain ⟨u347, h⟩ := h
  obtain ⟨u348, h⟩ := h
  obtain ⟨u349, h⟩ := h
  obtain ⟨u350, h⟩ := h
  obtain ⟨u351, h⟩ := h
  obtain ⟨u352, h⟩ := h
  obtain ⟨u353, h⟩ := h
  obtain ⟨u354, h⟩ := h
  obtain ⟨u355, h⟩ := h
  obtain ⟨u356, h⟩ := h
  obtain ⟨u357, h⟩ := h
  obtain ⟨u358, h⟩ := h
  obtain ⟨u359, h⟩ := h
  obtain ⟨u360, h⟩ := h
  obtain ⟨u361, h⟩ := h
  obtain ⟨u362, h⟩ := h
  obtain ⟨u363, h⟩ := h
  obtain ⟨u364, h⟩ := h
  obtain ⟨u365, h⟩ := h
  obtain ⟨u366, h⟩ := h
  obtain ⟨u367, h⟩ := h
  obtain ⟨u368, h⟩ := h
  obtain ⟨u369, h⟩ := h
  obtain ⟨u370, h⟩ := h
  obtain ⟨u371, h⟩ := h
  obtain ⟨u372, h⟩ := h
  obtain ⟨u373, h⟩ := h
  obtain ⟨u374, h⟩ := h
  obtain ⟨u375, h⟩ := h
  obtain ⟨u376, h⟩ := h
  obtain ⟨u377, h⟩ := h
  obtain ⟨u378, h⟩ := h
  obtain ⟨u379, h⟩ := h
  obtain ⟨u380, h⟩ := h
  obtain ⟨u381, h⟩ := h
  obtain ⟨u382, h⟩ := h
  obtain ⟨u383, h⟩ := h
  obtain ⟨u384, h⟩ := h
  obtain ⟨u385, h⟩ := h
  obtain ⟨u386, h⟩ := h
  obtain ⟨u387, h⟩ := h
  obtain ⟨u388, h⟩ := h
  obtain ⟨u389, h⟩ := h
  obtain ⟨u390, h⟩ := h
  obtain ⟨u391, h⟩ := h
  obtain ⟨u392, h⟩ := h
  obtain ⟨u393, h⟩ := h
  obtain ⟨u394, h⟩ := h
  obtain ⟨u395, h⟩ := h
  obtain ⟨hr, rfl⟩ := h
  exact hQ u32 u33 u34 u35 u36 u37 u38 u40 u41 u42 u43 u44 u45 u290 u291 u292 u293 u294 u295 u296 u297 u298 u299 u300 u301 u302 u303 u304 u305 u306 u307 u308 u309 u310 u311 u312 u313 u314 u315 u316 u317 u318 u319 u320 u321 u322 u323 u324 u325 u326 u327 u328 u329 u330 u331 u332 u333 u334 u335 u336 u337 u338 u339 u340 u341 u342 u343 u344 u345 u346 u347 u348 u349 u350 u351 u352 u353 u354 u355 u356 u357 u358 u359 u360 u361 u362 u363 u364 u365 u366 u367 u368 u369 u370 u371 u372 u373 u374 u375 u376 u377 u378 u379 u380 u381 u382 u383 u384 u385 u386 u387 u388 u389 u390 u391 u392 u393 u394 u395 w' hr
end Go.Proofs.Ytdljnhdhigbefaa
