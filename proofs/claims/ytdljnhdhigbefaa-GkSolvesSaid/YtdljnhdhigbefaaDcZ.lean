/- The document's layer 17, a part of its Solve: clearing (printed by gen_dc.py). No condition but on lengths. -/
import Derived.Test.YtdljnhdhigbefaaZz19
namespace Go.Proofs.Ytdljnhdhigbefaa
open Go Go.RowKit
set_option maxRecDepth 1000000

set_option maxRecDepth 1000000 in
set_option maxHeartbeats 16000000 in
theorem clear_part (c0 c1 c2 c3 c4 c5 c6 c7 c8 c9 c10 c11 c13 c17 c18 c19 c21 c23 c27 c28 c29 c30 c31 c32 c33 c34 c35 c36 c37 c38 c39 c40 c41 c42 c43 c44 c45 c46 c47 c48 c49 c50 c51 c52 c53 c54 c55 c56 c57 c58 c59 c60 c61 c62 c63 c64 c65 c66 c67 c68 c69 c70 c71 c72 c73 c74 c75 c76 c77 c78 c79 c80 c81 c82 c83 c84 c85 c86 c87 c88 c89 c90 c91 c92 c93 c94 c95 c96 c97 c98 c99 c100 c101 c102 c103 c104 c105 c106 c107 c108 c109 c110 c111 c112 c113 c114 c115 c116 c117 c118 c119 c120 c121 c122 c123 c124 c125 c126 c127 c128 c129 c130 c131 c132 c133 c134 c135 c136 c137 c138 c139 c140 c141 c142 c143 c144 c145 c146 c147 c148 c149 c150 c151 c152 c153 c154 c155 c156 c157 c158 c159 c160 c161 c162 c163 c164 c165 c166 c167 c168 c169 c170 c171 c172 c173 c174 c175 c176 c177 c178 c179 c180 c181 c182 c183 c184 c185 c186 c187 c188 c189 c190 c191 c192 c193 c194 c195 c196 c197 c198 c199 c200 c201 c202 c203 c204 c205 c206 c207 c208 c209 c210 c211 c212 c213 c214 c215 c216 c217 c218 c219 c220 c221 c222 c223 c224 c225 c226 c227 c228 c229 c230 c231 c232 c233 c234 c235 c236 c237 c238 c239 c240 c241 c242 c243 c244 c245 c246 c247 c248 c249 c250 c251 c252 c253 c254 c255 c256 c257 c258 c259 c260 c261 c262 c263 c264 c265 c266 c267 c268 c269 c270 c271 c272 c273 c274 c275 c276 c277 c278 c279 c280 c281 c282 c283 c284 c285 c286 c287 c288 c289 c290 c291 c292 c293 c294 c295 c296 c297 c298 c299 c300 c301 c302 c303 c304 c305 c306 c307 c308 c309 c310 c311 c312 c313 c314 c315 c316 c317 c318 c319 c320 c321 c322 c323 c324 c325 c326 c327 c328 c329 c330 c331 c332 c333 c334 c335 c336 c337 c338 c339 c340 c341 c342 c343 c344 c345 c346 c347 c348 c349 c350 c351 c352 c353 c354 c355 c356 c357 c358 c359 c360 c361 c362 c363 c364 c365 c366 c367 c368 c369 c370 c371 c372 c373 c374 c375 c376 c377 c378 c379 c380 c381 c382 c383 c384 c385 c386 c387 c388 c389 c390 c391 c392 c393 c394 c395 c396 c397 c398 c399 c400 c401 c402 c403 c404 c405 c406 c407 c408 c409 c410 c411 c412 c413 c414 c415 c416 c417 c418 c419 c420 : Value) (p : RgP) (g : GkS) (big sb l k : Nat) (w0 w : World) (hG : RGk w0 w p g) (hl : 0 < l) (hlk : l ≤ k) (hk : k < p.n) (J K : Act → World → Prop) (Q' : Exit → Act → World → Prop)
    (hJ : ∀ (a' : Act) (w' : World), (∃ u24 u25 u26 u27 u28 u29 u30 u112 u113 u114 u115 u116 u117 u118 u119 u120 u121 u122 u123 u124 u125 u126 u127 u128 u129 u130 u131 u132 u133 u134 u135 u136 u137 u138 u139 u140 u141 u142 u143 u144 u145 u146 u147 u148 u149 u150 u151 u152 u153 u154 u155 u156 u157 u158 u159 u160 u161 u162 u163 u164 u165 : Value, (RGk w0 w' p (clearG p.n p.ru big l k g)) ∧ a' = { tmps := #[c0, c1, c2, c3, c4, c5, c6, c7, c8, c9, c10, c11, .pointer (some ⟨p.Y, 0, none⟩), c13, .slice (some ⟨p.bd, 0, none⟩) p.n p.dc, .slice (some ⟨p.be, 0, none⟩) p.ne p.ec, .float .f64 (raw big sb), c17, c18, c19, .int .i64 k, c21, .int .i64 l, c23, u24, u25, u26, u27, u28, u29, u30, c31, c32, c33, c34, c35, c36, c37, c38, c39, c40, c41, c42, c43, c44, c45, c46, c47, c48, c49, c50, c51, c52, c53, c54, c55, c56, c57, c58, c59, c60, c61, c62, c63, c64, c65, c66, c67, c68, c69, c70, c71, c72, c73, c74, c75, c76, c77, c78, c79, c80, c81, c82, c83, c84, c85, c86, c87, c88, c89, c90, c91, c92, c93, c94, c95, c96, c97, c98, c99, c100, c101, c102, c103, c104, c105, c106, c107, c108, c109, c110, c111, u112, u113, u114, u115, u116, u117, u118, u119, u120, u121, u122, u123, u124, u125, u126, u127, u128, u129, u130, u131, u132, u133, u134, u135, u136, u137, u138, u139, u140, u141, u142, u143, u144, u145, u146, u147, u148, u149, u150, u151, u152, u153, u154, u155, u156, u157, u158, u159, u160, u161, u162, u163, u164, u165, c166, c167, c168, c169, c170, c171, c172, c173, c174, c175, c176, c177, c178, c179, c180, c181, c182, c183, c184, c185, c186, c187, c188, c189, c190, c191, c192, c193, c194, c195, c196, c197, c198, c199, c200, c201, c202, c203, c204, c205, c206, c207, c208, c209, c210, c211, c212, c213, c214, c215, c216, c217, c218, c219, c220, c221, c222, c223, c224, c225, c226, c227, c228, c229, c230, c231, c232, c233, c234, c235, c236, c237, c238, c239, c240, c241, c242, c243, c244, c245, c246, c247, c248, c249, c250, c251, c252, c253, c254, c255, c256, c257, c258, c259, c260, c261, c262, c263, c264, c265, c266, c267, c268, c269, c270, c271, c272, c273, c274, c275, c276, c277, c278, c279, c280, c281, c282, c283, c284, c285, c286, c287, c288, c289, c290, c291, c292, c293, c294, c295, c296, c297, c298, c299, c300, c301, c302, c303, c304, c305, c306, c307, c308, c309, c310, c311, c312, c313, c314, c315, c316, c317, c318, c319, c320, c321, c322, c323, c324, c325, c326, c327, c328, c329, c330, c331, c332, c333, c334, c335, c336, c337, c338, c339, c340, c341, c342, c343, c344, c345, c346, c347, c348, c349, c350, c351, c352, c353, c354, c355, c356, c357, c358, c359, c360, c361, c362, c363, c364, c365, c366, c367, c368, c369, c370, c371, c372, c373, c374, c375, c376, c377, c378, c379, c380, c381, c382, c383, c384, c385, c386, c387, c388, c389, c390, c391, c392, c393, c394, c395, c396, c397, c398, c399, c400, c401, c402, c403, c404, c405, c406, c407, c408, c409, c410, c411, c412, c413, c414, c415, c416, c417, c418, c419, c420], defers := [] }) → J a' w') (hKJ : ∀ (a' : Act) (w' : World), Met J a' w' → K a' w') :
    Code.wp Try.prog ((findBlock (Try.f19.body.getD .skip) 8).getD .skip) (Exit.then K Q') { tmps := #[c0, c1, c2, c3, c4, c5, c6, c7, c8, c9, c10, c11, .pointer (some ⟨p.Y, 0, none⟩), c13, .slice (some ⟨p.bd, 0, none⟩) p.n p.dc, .slice (some ⟨p.be, 0, none⟩) p.ne p.ec, .float .f64 (raw big sb), c17, c18, c19, .int .i64 k, c21, .int .i64 l, c23, .float .f64 0, .float .f64 4607182418800017408, .int .i64 l, c27, c28, c29, c30, c31, c32, c33, c34, c35, c36, c37, c38, c39, c40, c41, c42, c43, c44, c45, c46, c47, c48, c49, c50, c51, c52, c53, c54, c55, c56, c57, c58, c59, c60, c61, c62, c63, c64, c65, c66, c67, c68, c69, c70, c71, c72, c73, c74, c75, c76, c77, c78, c79, c80, c81, c82, c83, c84, c85, c86, c87, c88, c89, c90, c91, c92, c93, c94, c95, c96, c97, c98, c99, c100, c101, c102, c103, c104, c105, c106, c107, c108, c109, c110, c111, c112, c113, c114, c115, c116, c117, c118, c119, c120, c121, c122, c123, c124, c125, c126, c127, c128, c129, c130, c131, c132, c133, c134, c135, c136, c137, c138, c139, c140, c141, c142, c143, c144, c145, c146, c147, c148, c149, c150, c151, c152, c153, c154, c155, c156, c157, c158, c159, c160, c161, c162, c163, c164, c165, c166, c167, c168, c169, c170, c171, c172, c173, c174, c175, c176, c177, c178, c179, c180, c181, c182, c183, c184, c185, c186, c187, c188, c189, c190, c191, c192, c193, c194, c195, c196, c197, c198, c199, c200, c201, c202, c203, c204, c205, c206, c207, c208, c209, c210, c211, c212, c213, c214, c215, c216, c217, c218, c219, c220, c221, c222, c223, c224, c225, c226, c227, c228, c229, c230, c231, c232, c233, c234, c235, c236, c237, c238, c239, c240, c241, c242, c243, c244, c245, c246, c247, c248, c249, c250, c251, c252, c253, c254, c255, c256, c257, c258, c259, c260, c261, c262, c263, c264, c265, c266, c267, c268, c269, c270, c271, c272, c273, c274, c275, c276, c277, c278, c279, c280, c281, c282, c283, c284, c285, c286, c287, c288, c289, c290, c291, c292, c293, c294, c295, c296, c297, c298, c299, c300, c301, c302, c303, c304, c305, c306, c307, c308, c309, c310, c311, c312, c313, c314, c315, c316, c317, c318, c319, c320, c321, c322, c323, c324, c325, c326, c327, c328, c329, c330, c331, c332, c333, c334, c335, c336, c337, c338, c339, c340, c341, c342, c343, c344, c345, c346, c347, c348, c349, c350, c351, c352, c353, c354, c355, c356, c357, c358, c359, c360, c361, c362, c363, c364, c365, c366, c367, c368, c369, c370, c371, c372, c373, c374, c375, c376, c377, c378, c379, c380, c381, c382, c383, c384, c385, c386, c387, c388, c389, c390, c391, c392, c393, c394, c395, c396, c397, c398, c399, c400, c401, c402, c403, c404, c405, c406, c407, c408, c409, c410, c411, c412, c413, c414, c415, c416, c417, c418, c419, c420], defers := [] } w := by
  conv => arg 2; whnf
  have HKJ := Lib.hid hKJ
  have HJ := Lib.hid hJ
  have H0 := Lib.hid hG
  obtain ⟨RR, hR⟩ : ∃ RR, RR = clearG p.n p.ru big l k g := ⟨_, rfl⟩
  rw [← hR] at HJ
  obtain ⟨l0, hl0⟩ : ∃ l0, l = l0 + 1 := ⟨l - 1, by omega⟩
  have HR0 := Lib.hid hR
  have HK := Lib.hid (show 0 < l ∧ l ≤ k ∧ k < p.n ∧ k < 512 ∧ l = l0 + 1 ∧ 0 < p.n from ⟨hl, hlk, hk, by have := hG.hn; omega, hl0, by omega⟩)
  have HL9 := Lib.hid (w64s hl0 (by have := HK.out; omega))
  clear hJ hKJ hG hR hl hlk hk hl0
  go_wp2_with fail
  go_loopw [24, 25, 26] (fun s24 s25 s26 wr => ∃ (i m : Nat) (y : ClS) (sc ss : Nat), i + m = k + 1 ∧ l ≤ i ∧ s24 = .float .f64 (raw y.c sc) ∧ s25 = .float .f64 (raw y.s ss) ∧ s26 = .int .i64 i ∧ y.c < 18446744073709551616 ∧ y.s < 18446744073709551616 ∧ RR = clL p.n p.ru big l m i y ∧ RGk w0 wr p y.x) (fun _ _ s26 _ => k + 1 - (intOf s26).toNat)
  case atStart => exact ⟨l, k + 1 - l, ⟨g, 0, 4607182418800017408⟩, 0, 0, by have := HK.out; omega, Nat.le_refl _, by rw [raw_of_not (by kernel_rfl)], by rw [raw_of_not (by kernel_rfl)], rfl, (show (0 : Nat) < 18446744073709551616 by decide), (show (4607182418800017408 : Nat) < 18446744073709551616 by decide), HR0.out, H0.out⟩
  case round =>
    obtain ⟨i, m, y, sc, ss, him, hli, rfl, rfl, rfl, hyc, hys, hR, hS⟩ := hrel
    have H1 := Lib.hid hS
    have R1 := Lib.hid hR
    have HI := Lib.hid (And.intro him hli)
    clear hS hR hyc hys him hli H0
    by_cases hik : i ≤ k
    case pos =>
      obtain ⟨m', hm⟩ : ∃ m', m = m' + 1 := ⟨m - 1, by have := HI.out; omega⟩
      subst hm
      have HIK := Lib.hid (show i < p.n ∧ i < p.ne ∧ i < 1000 ∧ i ≤ k from ⟨by have := HK.out; omega, by have := HK.out; have := H1.out.hn; omega, by have := HK.out; omega, hik⟩)
      have hin := HIK.out.1
      have hie := HIK.out.2.1
      have hi9 := HIK.out.2.2.1
      obtain ⟨ei, hei⟩ : ∃ x, x = y.x.e.getD i 0 := ⟨_, rfl⟩
      obtain ⟨di, hdi⟩ : ∃ x, x = y.x.d.getD i 0 := ⟨_, rfl⟩
      have HED := Lib.hid (show ei = y.x.e.getD i 0 ∧ di = y.x.d.getD i 0 ∧ ei < 18446744073709551616 ∧ di < 18446744073709551616 from ⟨hei, hdi, hei ▸ H1.out.we.at _, hdi ▸ H1.out.wd.at _⟩)
      clear hei hdi
      obtain ⟨se, ce⟩ := H1.out.atE HK.out.2.2.2.2.2 hie
      rw [← HED.out.1] at ce
      have le := (H1.out.ltD HK.out.2.2.2.2.2).2
      have fe := H1.out.frE HK.out.2.2.2.2.2
      go_upto_region 29 with (fail)
      go_upto_region 30 with (first | (refine wpList_flt rfl rfl rfl rfl rfl ?_; intro K hK sf nf; go_frame; refine hK _ _ ?_; clear hK K))
      simp only [fmul_rawl, fmul_rawr]
      have hb := below_drewN nf (Below.refl wr.heap.size wr)
      clear ce le fe
      have H2 := Lib.hid (H1.out.step hb)
      clear H1
      generalize wr.drewN nf = w2 at *
      clear hb
      obtain ⟨se, ce⟩ := H2.out.atE HK.out.2.2.2.2.2 hie
      rw [← HED.out.1] at ce
      have le := (H2.out.ltD HK.out.2.2.2.2.2).2
      have fe := H2.out.frE HK.out.2.2.2.2.2
      go_upto_region 31 with (first | (refine wpList_flt rfl rfl rfl rfl rfl ?_; intro K hK s5 n5; go_frame; refine hK _ _ ?_; clear hK K))
      simp only [fmul_rawl, fmul_rawr]
      have hb := below_drewN n5 (Below.refl w2.heap.size w2)
      clear ce le fe
      have H3 := Lib.hid (H2.out.step hb)
      clear H2
      clear hb
      obtain ⟨w3, hw3⟩ : ∃ x, x = (w2.drewN n5).setCell ⟨p.be, i, none⟩ (.float .f64 (raw (fmul y.c ei) s5)) := ⟨_, rfl⟩
      rw [← hw3]
      have H4 := Lib.hid (show RGk w0 w3 p ⟨y.x.d, clE y i, y.x.u, y.x.v⟩ by rw [hw3]; unfold clE; rw [← HED.out.1]; exact H3.out.setE HK.out.2.2.2.2.2 i (fmul y.c ei) s5 (fmul_lt _ _))
      clear hw3 H3
      have R2 := Lib.hid (show RR = if feq (fadd (fabs (fmul y.s ei)) big) big then (⟨y.x.d, clE y i, y.x.u, y.x.v⟩ : GkS) else clL p.n p.ru big l m' (i + 1) (clN p.n p.ru l y i) by rw [R1.out, clL, clF, ← HED.out.1]; rfl)
      clear R1
      go_wp2_with fail
      refine (RAbsF (fmul y.s ei) sf (fmul_lt _ _) _).mono ?_
      rintro r w9 ⟨⟨t1, rfl⟩, rfl⟩
      dsimp only
      go_upto_if 137 with (first | (refine wpList_flt rfl rfl rfl rfl rfl ?_; intro K hK s6 n6; go_frame; refine hK _ _ ?_; clear hK K))
      simp only [fadd_rawl, fadd_rawr, feq_rawl, feq_rawr]
      have hb := below_drewN n6 (Below.refl w3.heap.size w3)
      have H5 := Lib.hid (H4.out.step hb)
      clear H4
      generalize w3.drewN n6 = w4 at *
      clear hb
      cases hq : feq (fadd (fabs (fmul y.s ei)) big) big
      case true =>
        have R3 := Lib.hid (show RR = ⟨y.x.d, clE y i, y.x.u, y.x.v⟩ by have h := R2.out; rw [hq, if_pos rfl] at h; exact h)
        clear R2
        have hJ := HJ.out
        have hKJ := HKJ.out
        go_wp2_with fail
        go_meet
        case rel => rw [R3.out]; exact H5.out
      case false =>
        have R3 := Lib.hid (show RR = clL p.n p.ru big l m' (i + 1) (clN p.n p.ru l y i) by have h := R2.out; rw [hq, if_neg (by decide)] at h; exact h)
        clear R2
        obtain ⟨sd, cd⟩ := H5.out.atD hin
        rw [← HED.out.2.1] at cd
        have ld := (H5.out.ltD HK.out.2.2.2.2.2).1
        have fd := H5.out.frD HK.out.2.2.2.2.2
        go_upto_region 33 with (fail)
        go_wp2_with fail
        refine (RHypotF (fmul y.s ei) sf di sd (fmul_lt _ _) HED.out.2.2.2 _).mono ?_
        rintro r w5 ⟨⟨sh, rfl⟩, hb⟩
        clear cd ld fd
        have H6 := Lib.hid (H5.out.step hb)
        clear H5
        clear hb
        dsimp only
        obtain ⟨hh, hhh⟩ : ∃ x, x = hypW (fmul y.s ei) di := ⟨_, rfl⟩
        rw [← hhh]
        have HH := Lib.hid (show hh = hypW (fmul y.s ei) di ∧ hh < 18446744073709551616 from ⟨hhh, hhh ▸ hypW_lt _ _⟩)
        clear hhh
        obtain ⟨sd, cd⟩ := H6.out.atD hin
        rw [← HED.out.2.1] at cd
        have ld := (H6.out.ltD HK.out.2.2.2.2.2).1
        have fd := H6.out.frD HK.out.2.2.2.2.2
        go_upto_region 35 with (fail)
        clear cd ld fd
        obtain ⟨w6, hw6⟩ : ∃ x, x = w5.setCell ⟨p.bd, i, none⟩ (.float .f64 (raw hh sh)) := ⟨_, rfl⟩
        rw [← hw6]
        have H7 := Lib.hid (show RGk w0 w6 p ⟨y.x.d.set i hh, clE y i, y.x.u, y.x.v⟩ by rw [hw6]; exact H6.out.setD HK.out.2.2.2.2.2 i hh sh HH.out.2)
        clear hw6 H6
        go_upto_region 36 with (first | (refine wpList_flt rfl rfl rfl rfl rfl ?_; intro K hK st nt; go_frame; refine hK _ _ ?_; clear hK K))
        simp only [fdiv_rawl, fdiv_rawr]
        have hb := below_drewN nt (Below.refl w6.heap.size w6)
        have H8 := Lib.hid (H7.out.step hb)
        clear H7
        generalize w6.drewN nt = w7 at *
        clear hb
        go_upto_region 37 with (first | (refine wpList_flt rfl rfl rfl rfl rfl ?_; intro K hK sv nv; go_frame; refine hK _ _ ?_; clear hK K))
        simp only [fmul_rawl, fmul_rawr, fdiv_rawl, fdiv_rawr]
        have hb := below_drewN nv (Below.refl w7.heap.size w7)
        have H9 := Lib.hid (H8.out.step hb)
        clear H8
        generalize w7.drewN nv = w8 at *
        clear hb
        go_upto_region 38 with (first | (refine wpList_flt rfl rfl rfl rfl rfl ?_; intro K hK su nu; go_frame; refine hK _ _ ?_; clear hK K))
        simp only [fmul_rawl, fmul_rawr, fdiv_rawl, fdiv_rawr]
        have hb := below_drewN nu (Below.refl w8.heap.size w8)
        have H10 := Lib.hid (H9.out.step hb)
        clear H9
        generalize w8.drewN nu = w9 at *
        clear hb
        go_upto_region 39 with (fail)
        obtain ⟨sz, hsz⟩ := neg_raw (fmul (fmul y.s ei) (fdiv 4607182418800017408 hh)) su (fmul_lt _ _)
        rw [hsz]
        clear hsz
        obtain ⟨cc, hcc⟩ : ∃ x, x = fmul di (fdiv 4607182418800017408 hh) := ⟨_, rfl⟩
        obtain ⟨zz, hzz⟩ : ∃ x, x = fneg (fmul (fmul y.s ei) (fdiv 4607182418800017408 hh)) := ⟨_, rfl⟩
        rw [← hcc, ← hzz]
        have HC := Lib.hid (show cc = clC y i ∧ zz = clZ y i ∧ hh = clH y i ∧ cc < 18446744073709551616 ∧ zz < 18446744073709551616 by
          have e1 : hh = clH y i := by unfold clH clF; rw [← HED.out.1, ← HED.out.2.1]; exact HH.out.1
          refine ⟨?_, ?_, e1, hcc ▸ fmul_lt _ _, hzz ▸ fneg_lt (fmul_lt _ _)⟩
          · unfold clC; rw [← HED.out.2.1, ← e1]; exact hcc
          · unfold clZ clF; rw [← HED.out.1, ← e1]; exact hzz)
        clear hcc hzz
        obtain ⟨y1, y2, y3⟩ := H10.out.xu.facts
        have hl1 := HL9.out.1
        have hl2 := HL9.out.2
        go_wp2_with fail
        refine (rgk_turnU (j := l0) (i := i) (c := cc) (sc := sv) (s := zz) (ss := sz) H10.out (by have := HK.out; have := HIK.out; omega) hin).mono ?_
        rintro r wa ⟨rfl, hT⟩
        have HN := Lib.hid (show RGk w0 wa p (clN p.n p.ru l y i).x by have h := hT; dsimp only at h; unfold clN; dsimp only; rw [← HC.out.1, ← HC.out.2.1, ← HC.out.2.2.1, show l - 1 = l0 by have := HK.out; omega]; exact h)
        clear hT y1 y2 y3 H10 hl1 hl2
        dsimp only
        go_wp2_with fail
        go_roundw
        case rel => exact ⟨i + 1, m', clN p.n p.ru l y i, sv, sz, by have := HI.out; omega, by have := HI.out; omega, by rw [HC.out.1]; rfl, by rw [HC.out.2.1]; rfl, by go_num, (show clC y i < 18446744073709551616 from HC.out.1 ▸ HC.out.2.2.2.1), (show clZ y i < 18446744073709551616 from HC.out.2.1 ▸ HC.out.2.2.2.2), R3.out, HN.out⟩
        case measure => have := HIK.out; simp [intOf]; omega
    case neg =>
      have hm0 : m = 0 := by have := HI.out; omega
      subst hm0
      have R3 := Lib.hid (show RR = y.x from R1.out)
      clear R1
      have hJ := HJ.out
      have hKJ := HKJ.out
      go_wp2_with fail
      go_meet
      case rel => rw [R3.out]; exact H1.out
set_option maxRecDepth 1000000 in
theorem clear_part_q (c0 c1 c2 c3 c4 c5 c6 c7 c8 c9 c10 c11 c13 c17 c18 c19 c21 c23 c27 c28 c29 c30 c31 c32 c33 c34 c35 c36 c37 c38 c39 c40 c41 c42 c43 c44 c45 c46 c47 c48 c49 c50 c51 c52 c53 c54 c55 c56 c57 c58 c59 c60 c61 c62 c63 c64 c65 c66 c67 c68 c69 c70 c71 c72 c73 c74 c75 c76 c77 c78 c79 c80 c81 c82 c83 c84 c85 c86 c87 c88 c89 c90 c91 c92 c93 c94 c95 c96 c97 c98 c99 c100 c101 c102 c103 c104 c105 c106 c107 c108 c109 c110 c111 c112 c113 c114 c115 c116 c117 c118 c119 c120 c121 c122 c123 c124 c125 c126 c127 c128 c129 c130 c131 c132 c133 c134 c135 c136 c137 c138 c139 c140 c141 c142 c143 c144 c145 c146 c147 c148 c149 c150 c151 c152 c153 c154 c155 c156 c157 c158 c159 c160 c161 c162 c163 c164 c165 c166 c167 c168 c169 c170 c171 c172 c173 c174 c175 c176 c177 c178 c179 c180 c181 c182 c183 c184 c185 c186 c187 c188 c189 c190 c191 c192 c193 c194 c195 c196 c197 c198 c199 c200 c201 c202 c203 c204 c205 c206 c207 c208 c209 c210 c211 c212 c213 c214 c215 c216 c217 c218 c219 c220 c221 c222 c223 c224 c225 c226 c227 c228 c229 c230 c231 c232 c233 c234 c235 c236 c237 c238 c239 c240 c241 c242 c243 c244 c245 c246 c247 c248 c249 c250 c251 c252 c253 c254 c255 c256 c257 c258 c259 c260 c261 c262 c263 c264 c265 c266 c267 c268 c269 c270 c271 c272 c273 c274 c275 c276 c277 c278 c279 c280 c281 c282 c283 c284 c285 c286 c287 c288 c289 c290 c291 c292 c293 c294 c295 c296 c297 c298 c299 c300 c301 c302 c303 c304 c305 c306 c307 c308 c309 c310 c311 c312 c313 c314 c315 c316 c317 c318 c319 c320 c321 c322 c323 c324 c325 c326 c327 c328 c329 c330 c331 c332 c333 c334 c335 c336 c337 c338 c339 c340 c341 c342 c343 c344 c345 c346 c347 c348 c349 c350 c351 c352 c353 c354 c355 c356 c357 c358 c359 c360 c361 c362 c363 c364 c365 c366 c367 c368 c369 c370 c371 c372 c373 c374 c375 c376 c377 c378 c379 c380 c381 c382 c383 c384 c385 c386 c387 c388 c389 c390 c391 c392 c393 c394 c395 c396 c397 c398 c399 c400 c401 c402 c403 c404 c405 c406 c407 c408 c409 c410 c411 c412 c413 c414 c415 c416 c417 c418 c419 c420 : Value) (p : RgP) (g : GkS) (big sb l k : Nat) (w0 w : World) (hG : RGk w0 w p g) (hl : 0 < l) (hlk : l ≤ k) (hk : k < p.n) (Q : Exit → Act → World → Prop)
    (hQ : ∀ (u24 u25 u26 u27 u28 u29 u30 u112 u113 u114 u115 u116 u117 u118 u119 u120 u121 u122 u123 u124 u125 u126 u127 u128 u129 u130 u131 u132 u133 u134 u135 u136 u137 u138 u139 u140 u141 u142 u143 u144 u145 u146 u147 u148 u149 u150 u151 u152 u153 u154 u155 u156 u157 u158 u159 u160 u161 u162 u163 u164 u165 : Value) (w' : World), (RGk w0 w' p (clearG p.n p.ru big l k g)) → Q .normal { tmps := #[c0, c1, c2, c3, c4, c5, c6, c7, c8, c9, c10, c11, .pointer (some ⟨p.Y, 0, none⟩), c13, .slice (some ⟨p.bd, 0, none⟩) p.n p.dc, .slice (some ⟨p.be, 0, none⟩) p.ne p.ec, .float .f64 (raw big sb), c17, c18, c19, .int .i64 k, c21, .int .i64 l, c23, u24, u25, u26, u27, u28, u29, u30, c31, c32, c33, c34, c35, c36, c37, c38, c39, c40, c41, c42, c43, c44, c45, c46, c47, c48, c49, c50, c51, c52, c53, c54, c55, c56, c57, c58, c59, c60, c61, c62, c63, c64, c65, c66, c67, c68, c69, c70, c71, c72, c73, c74, c75, c76, c77, c78, c79, c80, c81, c82, c83, c84, c85, c86, c87, c88, c89, c90, c91, c92, c93, c94, c95, c96, c97, c98, c99, c100, c101, c102, c103, c104, c105, c106, c107, c108, c109, c110, c111, u112, u113, u114, u115, u116, u117, u118, u119, u120, u121, u122, u123, u124, u125, u126, u127, u128, u129, u130, u131, u132, u133, u134, u135, u136, u137, u138, u139, u140, u141, u142, u143, u144, u145, u146, u147, u148, u149, u150, u151, u152, u153, u154, u155, u156, u157, u158, u159, u160, u161, u162, u163, u164, u165, c166, c167, c168, c169, c170, c171, c172, c173, c174, c175, c176, c177, c178, c179, c180, c181, c182, c183, c184, c185, c186, c187, c188, c189, c190, c191, c192, c193, c194, c195, c196, c197, c198, c199, c200, c201, c202, c203, c204, c205, c206, c207, c208, c209, c210, c211, c212, c213, c214, c215, c216, c217, c218, c219, c220, c221, c222, c223, c224, c225, c226, c227, c228, c229, c230, c231, c232, c233, c234, c235, c236, c237, c238, c239, c240, c241, c242, c243, c244, c245, c246, c247, c248, c249, c250, c251, c252, c253, c254, c255, c256, c257, c258, c259, c260, c261, c262, c263, c264, c265, c266, c267, c268, c269, c270, c271, c272, c273, c274, c275, c276, c277, c278, c279, c280, c281, c282, c283, c284, c285, c286, c287, c288, c289, c290, c291, c292, c293, c294, c295, c296, c297, c298, c299, c300, c301, c302, c303, c304, c305, c306, c307, c308, c309, c310, c311, c312, c313, c314, c315, c316, c317, c318, c319, c320, c321, c322, c323, c324, c325, c326, c327, c328, c329, c330, c331, c332, c333, c334, c335, c336, c337, c338, c339, c340, c341, c342, c343, c344, c345, c346, c347, c348, c349, c350, c351, c352, c353, c354, c355, c356, c357, c358, c359, c360, c361, c362, c363, c364, c365, c366, c367, c368, c369, c370, c371, c372, c373, c374, c375, c376, c377, c378, c379, c380, c381, c382, c383, c384, c385, c386, c387, c388, c389, c390, c391, c392, c393, c394, c395, c396, c397, c398, c399, c400, c401, c402, c403, c404, c405, c406, c407, c408, c409, c410, c411, c412, c413, c414, c415, c416, c417, c418, c419, c420], defers := [] } w') :
    Code.wp Try.prog ((findBlock (Try.f19.body.getD .skip) 8).getD .skip) Q { tmps := #[c0, c1, c2, c3, c4, c5, c6, c7, c8, c9, c10, c11, .pointer (some ⟨p.Y, 0, none⟩), c13, .slice (some ⟨p.bd, 0, none⟩) p.n p.dc, .slice (some ⟨p.be, 0, none⟩) p.ne p.ec, .float .f64 (raw big sb), c17, c18, c19, .int .i64 k, c21, .int .i64 l, c23, .float .f64 0, .float .f64 4607182418800017408, .int .i64 l, c27, c28, c29, c30, c31, c32, c33, c34, c35, c36, c37, c38, c39, c40, c41, c42, c43, c44, c45, c46, c47, c48, c49, c50, c51, c52, c53, c54, c55, c56, c57, c58, c59, c60, c61, c62, c63, c64, c65, c66, c67, c68, c69, c70, c71, c72, c73, c74, c75, c76, c77, c78, c79, c80, c81, c82, c83, c84, c85, c86, c87, c88, c89, c90, c91, c92, c93, c94, c95, c96, c97, c98, c99, c100, c101, c102, c103, c104, c105, c106, c107, c108, c109, c110, c111, c112, c113, c114, c115, c116, c117, c118, c119, c120, c121, c122, c123, c124, c125, c126, c127, c128, c129, c130, c131, c132, c133, c134, c135, c136, c137, c138, c139, c140, c141, c142, c143, c144, c145, c146, c147, c148, c149, c150, c151, c152, c153, c154, c155, c156, c157, c158, c159, c160, c161, c162, c163, c164, c165, c166, c167, c168, c169, c170, c171, c172, c173, c174, c175, c176, c177, c178, c179, c180, c181, c182, c183, c184, c185, c186, c187, c188, c189, c190, c191, c192, c193, c194, c195, c196, c197, c198, c199, c200, c201, c202, c203, c204, c205, c206, c207, c208, c209, c210, c211, c212, c213, c214, c215, c216, c217, c218, c219, c220, c221, c222, c223, c224, c225, c226, c227, c228, c229, c230, c231, c232, c233, c234, c235, c236, c237, c238, c239, c240, c241, c242, c243, c244, c245, c246, c247, c248, c249, c250, c251, c252, c253, c254, c255, c256, c257, c258, c259, c260, c261, c262, c263, c264, c265, c266, c267, c268, c269, c270, c271, c272, c273, c274, c275, c276, c277, c278, c279, c280, c281, c282, c283, c284, c285, c286, c287, c288, c289, c290, c291, c292, c293, c294, c295, c296, c297, c298, c299, c300, c301, c302, c303, c304, c305, c306, c307, c308, c309, c310, c311, c312, c313, c314, c315, c316, c317, c318, c319, c320, c321, c322, c323, c324, c325, c326, c327, c328, c329, c330, c331, c332, c333, c334, c335, c336, c337, c338, c339, c340, c341, c342, c343, c344, c345, c346, c347, c348, c349, c350, c351, c352, c353, c354, c355, c356, c357, c358, c359, c360, c361, c362, c363, c364, c365, c366, c367, c368, c369, c370, c371, c372, c373, c374, c375, c376, c377, c378, c379, c380, c381, c382, c383, c384, c385, c386, c387, c388, c389, c390, c391, c392, c393, c394, c395, c396, c397, c398, c399, c400, c401, c402, c403, c404, c405, c406, c407, c408, c409, c410, c411, c412, c413, c414, c415, c416, c417, c418, c419, c420], defers := [] } w := by
  refine wp_mono (clear_part c0 c1 c2 c3 c4 c5 c6 c7 c8 c9 c10 c11 c13 c17 c18 c19 c21 c23 c27 c28 c29 c30 c31 c32 c33 c34 c35 c36 c37 c38 c39 c40 c41 c42 c43 c44 c45 c46 c47 c48 c49 c50 c51 c52 c53 c54 c55 c56 c57 c58 c59 c60 c61 c62 c63 c64 c65 c66 c67 c68 c69 c70 c71 c72 c73 c74 c75 c76 c77 c78 c79 c80 c81 c82 c83 c84 c85 c86 c87 c88 c89 c90 c91 c92 c93 c94 c95 c96 c97 c98 c99 c100 c101 c102 c103 c104 c105 c106 c107 c108 c109 c110 c111 c112 c113 c114 c115 c116 c117 c118 c119 c120 c121 c122 c123 c124 c125 c126 c127 c128 c129 c130 c131 c132 c133 c134 c135 c136 c137 c138 c139 c140 c141 c142 c143 c144 c145 c146 c147 c148 c149 c150 c151 c152 c153 c154 c155 c156 c157 c158 c159 c160 c161 c162 c163 c164 c165 c166 c167 c168 c169 c170 c171 c172 c173 c174 c175 c176 c177 c178 c179 c180 c181 c182 c183 c184 c185 c186 c187 c188 c189 c190 c191 c192 c193 c194 c195 c196 c197 c198 c199 c200 c201 c202 c203 c204 c205 c206 c207 c208 c209 c210 c211 c212 c213 c214 c215 c216 c217 c218 c219 c220 c221 c222 c223 c224 c225 c226 c227 c228 c229 c230 c231 c232 c233 c234 c235 c236 c237 c238 c239 c240 c241 c242 c243 c244 c245 c246 c247 c248 c249 c250 c251 c252 c253 c254 c255 c256 c257 c258 c259 c260 c261 c262 c263 c264 c265 c266 c267 c268 c269 c270 c271 c272 c273 c274 c275 c276 c277 c278 c279 c280 c281 c282 c283 c284 c285 c286 c287 c288 c289 c290 c291 c292 c293 c294 c295 c296 c297 c298 c299 c300 c301 c302 c303 c304 c305 c306 c307 c308 c309 c310 c311 c312 c313 c314 c315 c316 c317 c318 c319 c320 c321 c322 c323 c324 c325 c326 c327 c328 c329 c330 c331 c332 c333 c334 c335 c336 c337 c338 c339 c340 c341 c342 c343 c344 c345 c346 c347 c348 c349 c350 c351 c352 c353 c354 c355 c356 c357 c358 c359 c360 c361 c362 c363 c364 c365 c366 c367 c368 c369 c370 c371 c372 c373 c374 c375 c376 c377 c378 c379 c380 c381 c382 c383 c384 c385 c386 c387 c388 c389 c390 c391 c392 c393 c394 c395 c396 c397 c398 c399 c400 c401 c402 c403 c404 c405 c406 c407 c408 c409 c410 c411 c412 c413 c414 c415 c416 c417 c418 c419 c420 p g big sb l k w0 w hG hl hlk hk (fun a w => Q .normal a w) (fun a w => Q .normal a w) Q ?_ (fun _ _ h => h)) (fun e a w h => by cases e <;> exact h)
  intro a' w' h
  obtain ⟨u24, h⟩ := h
  obtain ⟨u25, h⟩ := h
  obtain ⟨u26, h⟩ := h
  obtain ⟨u27, h⟩ := h
  obtain ⟨u28, h⟩ := h
  obtain ⟨u29, h⟩ := h
  obtain ⟨u30, h⟩ := h
  obtain ⟨u112, h⟩ := h
  obtain ⟨u113, h⟩ := h
  obtain ⟨u114, h⟩ := h
  obtain ⟨u115, h⟩ := h
  obtain ⟨u116, h⟩ := h
  obtain ⟨u117, h⟩ := h
  obtain ⟨u118, h⟩ := h
  obtain ⟨u119, h⟩ := h
  obtain ⟨u120, h⟩ := h
  obtain ⟨u121, h⟩ := h
  obtain ⟨u122, h⟩ := h
  obtain ⟨u123, h⟩ := h
  obtain ⟨u124, h⟩ := h
  obtain ⟨u125, h⟩ := h
  obtain ⟨u126, h⟩ := h
  obtain ⟨u127, h⟩ := h
  obtain ⟨u128, h⟩ := h
  obtain ⟨u129, h⟩ := h
  obtain ⟨u130, h⟩ := h
  obtain ⟨u131, h⟩ := h
  obtain ⟨u132, h⟩ := h
  obtain ⟨u133, h⟩ := h
  obtain ⟨u134, h⟩ := h
  obtain ⟨u135, h⟩ := h
  obtain ⟨u136, h⟩ := h
  obtain ⟨u137, h⟩ := h
  obtain ⟨u138, h⟩ := h
  obtain ⟨u139, h⟩ := h
  obtain ⟨u140, h⟩ := h
  obtain ⟨u141, h⟩ := h
  obtain ⟨u142, h⟩ := h
  obtain ⟨u143, h⟩ := h
  obtain ⟨u144, h⟩ := h
  obtain ⟨u145, h⟩ := h
  obtain ⟨u146, h⟩ := h
  obtain ⟨u147, h⟩ := h
  obtain ⟨u148, h⟩ := h
  obtain ⟨u149, h⟩ := h
  obtain ⟨u150, h⟩ := h
  obtain ⟨u151, h⟩ := h
  obtain ⟨u152, h⟩ := h
  obtain ⟨u153, h⟩ := h
  obtain ⟨u154, h⟩ := h
  obtain ⟨u155, h⟩ := h
  obtain ⟨u156, h⟩ := h
  obtain ⟨u157, h⟩ := h
  obtain ⟨u158, h⟩ := h
  obtain ⟨u159, h⟩ := h
  obtain ⟨u160, h⟩ := h
  obtain ⟨u161, h⟩ := h
  obtain ⟨u162, h⟩ := h
  obtain ⟨u163, h⟩ := h
  obtain ⟨u164, h⟩ := h
  obtain ⟨u165, h⟩ := h
  obtain ⟨hr, rfl⟩ := h
  exact hQ u24 u25 u26 u27 u28 u29 u30 u112 u113 u114 u115 u116 u117 u118 u119 u120 u121 u122 u123 u124 u125 u126 u127 u128 u129 u130 u131 u132 u133 u134 u135 u136 u137 u138 u139 u140 u141 u142 u143 u144 u145 u146 u147 u148 u149 u150 u151 u152 u153 u154 u155 u156 u157 u158 u159 u160 u161 u162 u163 u164 u165 w' hr
end Go.Proofs.Ytdljnhdhigbefaa
