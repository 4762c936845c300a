/- The document's layer 17, its Solve: both copies are made, and boxed (printed by gen_dk.py). No condition but on lengths. -/
import Derived.Test.YtdljnhdhigbefaaZz19
namespace Go.Proofs.Ytdljnhdhigbefaa
open Go Go.RowKit
set_option maxRecDepth 1000000

theorem BoxU.belV {w W W' : World} {bs : List (Nat × List Value)} {s : Nat} (h : BoxU w W bs) (hs : w.heap.size ≤ s) (hne : ∀ p ∈ bs, p.1 ≠ s) (hb : Bel W.heap.size s W W') : BoxU w W' bs := ⟨fun p hp => (h.bx p hp).bel (hne p hp) hb, h.below.trans ((hb.mono h.below.size).below hs)⟩
/-- The region r of a text. -/
def findRegion : Code → Nat → Option Code
  | .region i ops m, r => if i = r then some (.region i ops m) else none
  | .block _ c, r => findRegion c r
  | .seq x y, r => match findRegion x r with
    | some c => some c
    | none => findRegion y r
  | .cond _ x y, r => match findRegion x r with
    | some c => some c
    | none => findRegion y r
  | .loop c, r => findRegion c r
  | .scope c, r => findRegion c r
  | .rangeFunc _ _ x y, r => match findRegion x r with
    | some c => some c
    | none => findRegion y r
  | _, _ => none
set_option maxHeartbeats 32000000 in
theorem region2_q (c0 c1 c2 c3 c6 c7 c8 c9 c10 c11 c12 c13 c14 c15 c16 c17 c18 c19 c20 c21 c22 c23 c24 c25 c26 c27 c28 c29 c30 c31 c32 c33 c34 c35 c36 c37 c38 c39 c40 c41 c42 c43 c44 c45 c46 c47 c48 c49 c50 c51 c52 c53 c54 c55 c56 c57 c58 c59 c60 c61 c62 c63 c64 c65 c66 c67 c68 c69 c70 c71 c72 c73 c74 c75 c76 c77 c78 c79 c80 c81 c82 c83 c84 c85 c86 c87 c88 c89 c90 c91 c92 c93 c94 c95 c96 c97 c98 c99 c100 c101 c102 c103 c104 c105 c106 c107 c108 c109 c110 c111 c112 c113 c114 c115 c116 c117 c118 c119 c120 c121 c122 c123 c124 c125 c126 c127 c128 c129 c130 c131 c132 c133 c134 c135 c136 c137 c138 c139 c140 c141 c142 c143 c144 c145 c146 c147 c148 c149 c150 c151 c152 c153 c154 c155 c156 c157 c158 c159 c160 c161 c162 c163 c164 c165 c166 c167 c168 c169 c170 c171 c172 c173 c174 c175 c176 c177 c178 c179 c180 c181 c182 c183 c184 c185 c186 c187 c188 c189 c190 c191 c192 c193 c194 c195 c196 c197 c198 c199 c200 c201 c202 c203 c204 c205 c206 c207 c208 c209 c210 c211 c212 c213 c214 c215 c216 c217 c218 c219 c220 c221 c222 c223 c224 c225 c226 c227 c228 c229 c230 c231 c232 c233 c234 c235 c236 c237 c238 c239 c240 c241 c242 c243 c244 c245 c246 c247 c248 c249 c250 c251 c252 c253 c254 c255 c256 c257 c258 c259 c260 c261 c262 c263 c264 c265 c266 c267 c268 c269 c270 c271 c272 c273 c274 c275 c276 c277 c278 c279 c280 c281 c282 c283 c284 c285 c286 c287 c288 c289 c290 c291 c292 c293 c294 c295 c296 c297 c298 c299 c300 c301 c302 c303 c304 c305 c306 c307 c308 c309 c310 c311 c312 c313 c314 c315 c316 c317 c318 c319 c320 c321 c322 c323 c324 c325 c326 c327 c328 c329 c330 c331 c332 c333 c334 c335 c336 c337 c338 c339 c340 c341 c342 c343 c344 c345 c346 c347 c348 c349 c350 c351 c352 c353 c354 c355 c356 c357 c358 c359 c360 c361 c362 c363 c364 c365 c366 c367 c368 c369 c370 c371 c372 c373 c374 c375 c376 c377 c378 c379 c380 c381 c382 c383 c384 c385 c386 c387 c388 c389 c390 c391 c392 c393 c394 c395 c396 c397 c398 c399 c400 c401 c402 c403 c404 c405 c406 c407 c408 c409 c410 c411 c412 c413 c414 c415 c416 c417 c418 c419 c420 : Value) (w : World) (da ea ua va : Option Addr) (d e u v : List Nat) (dc ec uc vc ru rv : Nat) (W0 : World) (hS : BoxU w W0 [(w.heap.size, [.slice da d.length dc, .slice ea e.length ec]), (w.heap.size + 1, [.int .i64 ru, .int .i64 d.length, .slice ua u.length uc]), (w.heap.size + 1 + 1, [.int .i64 rv, .int .i64 d.length, .slice va v.length vc]), (w.heap.size + 1 + 1 + 1, [.int .i64 0, .int .i64 0, .slice none 0 0]), (w.heap.size + 1 + 1 + 1 + 1, [.int .i64 0, .int .i64 0, .slice none 0 0])])
    (hCu : ∀ W, Below w.heap.size w W → Calls Try.prog 15 #[.agg #[.int .i64 ru, .int .i64 d.length, .slice ua u.length uc]] W (CopyP W ru d.length u)) (hCv : ∀ W, Below w.heap.size w W → Calls Try.prog 15 #[.agg #[.int .i64 rv, .int .i64 d.length, .slice va v.length vc]] W (CopyP W rv d.length v))
    (Q : Exit → Act → World → Prop) (hQ : ∀ (u12 u13 u49 u50 u51 u52 : Value) (w' : World), (∃ (bY bZ : Nat) (a2 a3 : Option Addr) (b2 c2 b3 c3 : Nat), u12 = .pointer (some ⟨bY, 0, none⟩) ∧ u13 = .pointer (some ⟨bZ, 0, none⟩) ∧ BoxU w w' [(w.heap.size, [.slice da d.length dc, .slice ea e.length ec]), (w.heap.size + 1, [.int .i64 ru, .int .i64 d.length, .slice ua u.length uc]), (w.heap.size + 1 + 1, [.int .i64 rv, .int .i64 d.length, .slice va v.length vc]), (w.heap.size + 1 + 1 + 1, [.int .i64 0, .int .i64 0, .slice none 0 0]), (w.heap.size + 1 + 1 + 1 + 1, [.int .i64 0, .int .i64 0, .slice none 0 0])] ∧ Box w' bY [.int .i64 ru, .int .i64 d.length, .slice a2 u.length c2] ∧ Box w' bZ [.int .i64 rv, .int .i64 d.length, .slice a3 v.length c3] ∧ FS w' a2 b2 u ∧ FS w' a3 b3 v ∧ (u.length ≤ c2 ∧ c2 ≤ maxLen ∧ v.length ≤ c3 ∧ c3 ≤ maxLen) ∧ (w.heap.size + 1 + 1 + 1 + 1 < bY ∧ w.heap.size + 1 + 1 + 1 + 1 < bZ ∧ bY ≠ bZ) ∧ (u ≠ [] → w.heap.size + 1 + 1 + 1 + 1 < b2 ∧ b2 ≠ bY ∧ b2 ≠ bZ) ∧ (v ≠ [] → w.heap.size + 1 + 1 + 1 + 1 < b3 ∧ b3 ≠ bY ∧ b3 ≠ bZ) ∧ (u ≠ [] → v ≠ [] → b2 ≠ b3)) → Q .normal { tmps := #[c0, c1, c2, c3, .pointer (some ⟨w.heap.size + 1, 0, none⟩), .pointer (some ⟨w.heap.size + 1 + 1, 0, none⟩), c6, c7, c8, c9, c10, c11, u12, u13, c14, c15, c16, c17, c18, c19, c20, c21, c22, c23, c24, c25, c26, c27, c28, c29, c30, c31, c32, c33, c34, c35, c36, c37, c38, c39, c40, c41, c42, c43, c44, c45, c46, c47, c48, u49, u50, u51, u52, c53, c54, c55, c56, c57, c58, c59, c60, c61, c62, c63, c64, c65, c66, c67, c68, c69, c70, c71, c72, c73, c74, c75, c76, c77, c78, c79, c80, c81, c82, c83, c84, c85, c86, c87, c88, c89, c90, c91, c92, c93, c94, c95, c96, c97, c98, c99, c100, c101, c102, c103, c104, c105, c106, c107, c108, c109, c110, c111, c112, c113, c114, c115, c116, c117, c118, c119, c120, c121, c122, c123, c124, c125, c126, c127, c128, c129, c130, c131, c132, c133, c134, c135, c136, c137, c138, c139, c140, c141, c142, c143, c144, c145, c146, c147, c148, c149, c150, c151, c152, c153, c154, c155, c156, c157, c158, c159, c160, c161, c162, c163, c164, c165, c166, c167, c168, c169, c170, c171, c172, c173, c174, c175, c176, c177, c178, c179, c180, c181, c182, c183, c184, c185, c186, c187, c188, c189, c190, c191, c192, c193, c194, c195, c196, c197, c198, c199, c200, c201, c202, c203, c204, c205, c206, c207, c208, c209, c210, c211, c212, c213, c214, c215, c216, c217, c218, c219, c220, c221, c222, c223, c224, c225, c226, c227, c228, c229, c230, c231, c232, c233, c234, c235, c236, c237, c238, c239, c240, c241, c242, c243, c244, c245, c246, c247, c248, c249, c250, c251, c252, c253, c254, c255, c256, c257, c258, c259, c260, c261, c262, c263, c264, c265, c266, c267, c268, c269, c270, c271, c272, c273, c274, c275, c276, c277, c278, c279, c280, c281, c282, c283, c284, c285, c286, c287, c288, c289, c290, c291, c292, c293, c294, c295, c296, c297, c298, c299, c300, c301, c302, c303, c304, c305, c306, c307, c308, c309, c310, c311, c312, c313, c314, c315, c316, c317, c318, c319, c320, c321, c322, c323, c324, c325, c326, c327, c328, c329, c330, c331, c332, c333, c334, c335, c336, c337, c338, c339, c340, c341, c342, c343, c344, c345, c346, c347, c348, c349, c350, c351, c352, c353, c354, c355, c356, c357, c358, c359, c360, c361, c362, c363, c364, c365, c366, c367, c368, c369, c370, c371, c372, c373, c374, c375, c376, c377, c378, c379, c380, c381, c382, c383, c384, c385, c386, c387, c388, c389, c390, c391, c392, c393, c394, c395, c396, c397, c398, c399, c400, c401, c402, c403, c404, c405, c406, c407, c408, c409, c410, c411, c412, c413, c414, c415, c416, c417, c418, c419, c420], defers := [] } w') :
    Code.wp Try.prog ((findRegion (Try.f19.body.getD .skip) 2).getD .skip) Q { tmps := #[c0, c1, c2, c3, .pointer (some ⟨w.heap.size + 1, 0, none⟩), .pointer (some ⟨w.heap.size + 1 + 1, 0, none⟩), c6, c7, c8, c9, c10, c11, c12, c13, c14, c15, c16, c17, c18, c19, c20, c21, c22, c23, c24, c25, c26, c27, c28, c29, c30, c31, c32, c33, c34, c35, c36, c37, c38, c39, c40, c41, c42, c43, c44, c45, c46, c47, c48, c49, c50, c51, c52, c53, c54, c55, c56, c57, c58, c59, c60, c61, c62, c63, c64, c65, c66, c67, c68, c69, c70, c71, c72, c73, c74, c75, c76, c77, c78, c79, c80, c81, c82, c83, c84, c85, c86, c87, c88, c89, c90, c91, c92, c93, c94, c95, c96, c97, c98, c99, c100, c101, c102, c103, c104, c105, c106, c107, c108, c109, c110, c111, c112, c113, c114, c115, c116, c117, c118, c119, c120, c121, c122, c123, c124, c125, c126, c127, c128, c129, c130, c131, c132, c133, c134, c135, c136, c137, c138, c139, c140, c141, c142, c143, c144, c145, c146, c147, c148, c149, c150, c151, c152, c153, c154, c155, c156, c157, c158, c159, c160, c161, c162, c163, c164, c165, c166, c167, c168, c169, c170, c171, c172, c173, c174, c175, c176, c177, c178, c179, c180, c181, c182, c183, c184, c185, c186, c187, c188, c189, c190, c191, c192, c193, c194, c195, c196, c197, c198, c199, c200, c201, c202, c203, c204, c205, c206, c207, c208, c209, c210, c211, c212, c213, c214, c215, c216, c217, c218, c219, c220, c221, c222, c223, c224, c225, c226, c227, c228, c229, c230, c231, c232, c233, c234, c235, c236, c237, c238, c239, c240, c241, c242, c243, c244, c245, c246, c247, c248, c249, c250, c251, c252, c253, c254, c255, c256, c257, c258, c259, c260, c261, c262, c263, c264, c265, c266, c267, c268, c269, c270, c271, c272, c273, c274, c275, c276, c277, c278, c279, c280, c281, c282, c283, c284, c285, c286, c287, c288, c289, c290, c291, c292, c293, c294, c295, c296, c297, c298, c299, c300, c301, c302, c303, c304, c305, c306, c307, c308, c309, c310, c311, c312, c313, c314, c315, c316, c317, c318, c319, c320, c321, c322, c323, c324, c325, c326, c327, c328, c329, c330, c331, c332, c333, c334, c335, c336, c337, c338, c339, c340, c341, c342, c343, c344, c345, c346, c347, c348, c349, c350, c351, c352, c353, c354, c355, c356, c357, c358, c359, c360, c361, c362, c363, c364, c365, c366, c367, c368, c369, c370, c371, c372, c373, c374, c375, c376, c377, c378, c379, c380, c381, c382, c383, c384, c385, c386, c387, c388, c389, c390, c391, c392, c393, c394, c395, c396, c397, c398, c399, c400, c401, c402, c403, c404, c405, c406, c407, c408, c409, c410, c411, c412, c413, c414, c415, c416, c417, c418, c419, c420], defers := [] } W0 := by
  conv => arg 2; whnf
  have HCu := Lib.hid hCu
  have HCv := Lib.hid hCv
  have C0 := Lib.hid (show BoxU w W0.drew _ from hS.step (below_drewN 1 (Below.refl _ _)))
  have HQ := Lib.hid hQ
  clear hS hCu hCv hQ
  refine wp_region_many 6 60 [(0, 0), (0, 2), (3, 4), (3, 5), (1, 1), (1, 3), (2, 4), (2, 5)] (fun W => (∀ i, W.cell? ⟨w.heap.size + 1, i, none⟩ = ([.int .i64 ru, .int .i64 d.length, .slice ua u.length uc] : List Value)[i]?) ∧ (∀ i, W.cell? ⟨w.heap.size + 1 + 1, i, none⟩ = ([.int .i64 rv, .int .i64 d.length, .slice va v.length vc] : List Value)[i]?)) (by kernel_rfl) (by kernel_rfl) ⟨(C0.out.get 1 rfl).cell, (C0.out.get 2 rfl).cell⟩ ?_
  generalize W0.drew = y0 at *
  iterate 2 (refine fm_take (v := ?_) rfl rfl ?_ ?_; rotate_left; (next => (intro w' hSw; (try dsimp only at hSw); go_simp; (try (rw [if_pos (by omega)]; go_simp)); (try with_reducible rfl))); (simp only [Act.put, List.setIfInBounds_toArray, List.set_cons_zero, List.set_cons_succ]))
  refine fm_from ?_
  refine fm_from ?_
  have L4 := Lib.hid ((C0.out.get 4 rfl).lt)
  refine fm_one2 rfl ?_ ?_ ?_
  · skip
    refine opW_take rfl rfl ?_
    go_simp
    refine (HCu.out _ C0.out.below).mono ?_
    rintro e_ x1 ⟨a2, b2, c2, rfl, hF, k3, k4, k1, k2, hb⟩
    have hsz := hb.size
    have F2 := Lib.hid hF
    have N2 := Lib.hid (show _ ∧ _ ∧ _ ∧ _ ∧ _ from ⟨k1, k2, k3, k4, hsz⟩)
    clear hF k1 k2 k3 k4
    have C1 := Lib.hid (C0.out.step hb)
    clear hb hsz C0
    refine ⟨⟨(C1.out.get 1 rfl).cell, (C1.out.get 2 rfl).cell⟩, ?_⟩
    refine fm_one2 rfl ?_ ?_ ?_
    · skip
      refine opW_take rfl rfl ?_
      go_simp
      refine (HCv.out _ C1.out.below).mono ?_
      rintro e_ x2 ⟨a3, b3, c3, rfl, hF, k3, k4, k1, k2, hb⟩
      have hsz := hb.size
      have F3 := Lib.hid hF
      have N3 := Lib.hid (show _ ∧ _ ∧ _ ∧ _ ∧ _ from ⟨k1, k2, k3, k4, hsz⟩)
      clear hF k1 k2 k3 k4
      have F2_ := Lib.hid (F2.out.below hb)
      clear F2
      have F2 := F2_
      clear F2_
      have C2 := Lib.hid (C1.out.step hb)
      clear hb hsz C1
      refine ⟨⟨(C2.out.get 1 rfl).cell, (C2.out.get 2 rfl).cell⟩, ?_⟩
      refine fm_now2 rfl rfl ?_ ?_
      · skip
        refine opW_take rfl rfl ?_
        go_simp
        obtain ⟨x3, hy⟩ : ∃ x, x = x2.alloc (.cells #[.int .i64 0, .int .i64 0, .slice none 0 0] 26) := ⟨_, rfl⟩
        rw [← hy]
        have hb : Below x2.heap.size x2 x3 := hy ▸ (Below.refl _ _).alloc (Nat.le_refl _) _
        have hsz := hb.size
        have BZ := Lib.hid (show Box x3 x2.heap.size [.int .i64 0, .int .i64 0, .slice none 0 0] from hy ▸ Box.newA x2 [.int .i64 0, .int .i64 0, .slice none 0 0] _ rfl)
        have NZ := Lib.hid (show x2.heap.size < x3.heap.size from by rw [hy]; simp)
        clear hy
        have F2_ := Lib.hid (F2.out.below hb)
        clear F2
        have F2 := F2_
        clear F2_
        have F3_ := Lib.hid (F3.out.below hb)
        clear F3
        have F3 := F3_
        clear F3_
        have C3 := Lib.hid (C2.out.step hb)
        clear hb hsz C2
        refine ⟨⟨(C3.out.get 1 rfl).cell, (C3.out.get 2 rfl).cell⟩, ?_⟩
        refine fm_now ?_
        refine opW_take rfl rfl ?_
        go_simp
        obtain ⟨x4, hy⟩ : ∃ x, x = x3.alloc (.cells #[.int .i64 0, .int .i64 0, .slice none 0 0] 26) := ⟨_, rfl⟩
        rw [← hy]
        have hb : Below x3.heap.size x3 x4 := hy ▸ (Below.refl _ _).alloc (Nat.le_refl _) _
        have hsz := hb.size
        have BY := Lib.hid (show Box x4 x3.heap.size [.int .i64 0, .int .i64 0, .slice none 0 0] from hy ▸ Box.newA x3 [.int .i64 0, .int .i64 0, .slice none 0 0] _ rfl)
        have NY := Lib.hid (show x3.heap.size < x4.heap.size from by rw [hy]; simp)
        clear hy
        have F2_ := Lib.hid (F2.out.below hb)
        clear F2
        have F2 := F2_
        clear F2_
        have F3_ := Lib.hid (F3.out.below hb)
        clear F3
        have F3 := F3_
        clear F3_
        have BZ_ := Lib.hid (BZ.out.below hb)
        clear BZ
        have BZ := BZ_
        clear BZ_
        have C4 := Lib.hid (C3.out.step hb)
        clear hb hsz C3
        refine ⟨⟨(C4.out.get 1 rfl).cell, (C4.out.get 2 rfl).cell⟩, ?_⟩
        refine fm_skip rfl ?_
        refine fm_skip rfl ?_
        have e2 := N2.out; have e3 := N3.out; have eY := NY.out; have eZ := NZ.out; have e0 := (C4.out.get 4 rfl).lt; have l4 := L4.out
        have NE := Lib.hid (show (w.heap.size + 1 + 1 + 1 + 1 < x3.heap.size ∧ w.heap.size + 1 + 1 + 1 + 1 < x2.heap.size ∧ x3.heap.size ≠ x2.heap.size) ∧ (u ≠ [] → w.heap.size + 1 + 1 + 1 + 1 < b2 ∧ b2 ≠ x3.heap.size ∧ b2 ≠ x2.heap.size) ∧ (v ≠ [] → w.heap.size + 1 + 1 + 1 + 1 < b3 ∧ b3 ≠ x3.heap.size ∧ b3 ≠ x2.heap.size) ∧ (u ≠ [] → v ≠ [] → b2 ≠ b3) from ⟨by omega, fun h => by have := e2.2.2.2.1 h; omega, fun h => by have := e3.2.2.2.1 h; omega, fun h k => by have := e2.2.2.2.1 h; have := e3.2.2.2.1 k; omega⟩)
        have CP := Lib.hid (show u.length ≤ c2 ∧ c2 ≤ maxLen ∧ v.length ≤ c3 ∧ c3 ≤ maxLen from ⟨e2.1, e2.2.1, e3.1, e3.2.1⟩)
        clear e2 e3 eY eZ e0 l4 N2 N3 NY NZ
        refine fm_nil ?_
        obtain ⟨o1, o2, o3⟩ := BY.out.facts
        obtain ⟨o4, o5, o6⟩ := BZ.out.facts
        have hyz := NE.out.1.2.2
        have hzy : x2.heap.size ≠ x3.heap.size := fun e => NE.out.1.2.2 e.symm
        go_simp
        go_wp2_with fail
        refine NoPanic.normal ?_
        clear o1 o2 o3 o4 o5 o6 hyz hzy
        have hb1 := bel_put3U (W := x4) (x3.heap.size) (.int .i64 ru) (.int .i64 d.length) (.slice a2 u.length c2)
        have HR : BoxU w (((x4.setCell ⟨x3.heap.size, 0, none⟩ (.int .i64 ru)).setCell ⟨x3.heap.size, 1, none⟩ (.int .i64 d.length)).setCell ⟨x3.heap.size, 2, none⟩ (.slice a2 u.length c2)) _ ∧ Box (((x4.setCell ⟨x3.heap.size, 0, none⟩ (.int .i64 ru)).setCell ⟨x3.heap.size, 1, none⟩ (.int .i64 d.length)).setCell ⟨x3.heap.size, 2, none⟩ (.slice a2 u.length c2)) (x3.heap.size) [.int .i64 ru, .int .i64 d.length, .slice a2 u.length c2] ∧ Box (((x4.setCell ⟨x3.heap.size, 0, none⟩ (.int .i64 ru)).setCell ⟨x3.heap.size, 1, none⟩ (.int .i64 d.length)).setCell ⟨x3.heap.size, 2, none⟩ (.slice a2 u.length c2)) (x2.heap.size) [.int .i64 0, .int .i64 0, .slice none 0 0] ∧ FS (((x4.setCell ⟨x3.heap.size, 0, none⟩ (.int .i64 ru)).setCell ⟨x3.heap.size, 1, none⟩ (.int .i64 d.length)).setCell ⟨x3.heap.size, 2, none⟩ (.slice a2 u.length c2)) a2 b2 u ∧ FS (((x4.setCell ⟨x3.heap.size, 0, none⟩ (.int .i64 ru)).setCell ⟨x3.heap.size, 1, none⟩ (.int .i64 d.length)).setCell ⟨x3.heap.size, 2, none⟩ (.slice a2 u.length c2)) a3 b3 v := ⟨C4.out.belV (by have := NE.out.1; omega) (fun p hp => by have := NE.out.1.1; simp only [List.mem_cons, List.not_mem_nil, or_false] at hp; rcases hp with rfl | rfl | rfl | rfl | rfl <;> (show _ ≠ _) <;> simp <;> omega) hb1, Box.put3 BY.out _ _ _, BZ.out.bel (fun e => NE.out.1.2.2 e.symm) hb1, F2.out.belC (fun h => (NE.out.2.1 h).2.1) hb1, F3.out.belC (fun h => (NE.out.2.2.1 h).2.1) hb1⟩
        generalize ((x4.setCell ⟨x3.heap.size, 0, none⟩ (.int .i64 ru)).setCell ⟨x3.heap.size, 1, none⟩ (.int .i64 d.length)).setCell ⟨x3.heap.size, 2, none⟩ (.slice a2 u.length c2) = v1 at *
        have hb2 := bel_put3U (W := v1) (x2.heap.size) (.int .i64 rv) (.int .i64 d.length) (.slice a3 v.length c3)
        have HR2 := Lib.hid (show BoxU w (((v1.setCell ⟨x2.heap.size, 0, none⟩ (.int .i64 rv)).setCell ⟨x2.heap.size, 1, none⟩ (.int .i64 d.length)).setCell ⟨x2.heap.size, 2, none⟩ (.slice a3 v.length c3)) _ ∧ Box (((v1.setCell ⟨x2.heap.size, 0, none⟩ (.int .i64 rv)).setCell ⟨x2.heap.size, 1, none⟩ (.int .i64 d.length)).setCell ⟨x2.heap.size, 2, none⟩ (.slice a3 v.length c3)) (x3.heap.size) [.int .i64 ru, .int .i64 d.length, .slice a2 u.length c2] ∧ Box (((v1.setCell ⟨x2.heap.size, 0, none⟩ (.int .i64 rv)).setCell ⟨x2.heap.size, 1, none⟩ (.int .i64 d.length)).setCell ⟨x2.heap.size, 2, none⟩ (.slice a3 v.length c3)) (x2.heap.size) [.int .i64 rv, .int .i64 d.length, .slice a3 v.length c3] ∧ FS (((v1.setCell ⟨x2.heap.size, 0, none⟩ (.int .i64 rv)).setCell ⟨x2.heap.size, 1, none⟩ (.int .i64 d.length)).setCell ⟨x2.heap.size, 2, none⟩ (.slice a3 v.length c3)) a2 b2 u ∧ FS (((v1.setCell ⟨x2.heap.size, 0, none⟩ (.int .i64 rv)).setCell ⟨x2.heap.size, 1, none⟩ (.int .i64 d.length)).setCell ⟨x2.heap.size, 2, none⟩ (.slice a3 v.length c3)) a3 b3 v from ⟨HR.1.belV (by have := NE.out.1; omega) (fun p hp => by have := NE.out.1.2.1; simp only [List.mem_cons, List.not_mem_nil, or_false] at hp; rcases hp with rfl | rfl | rfl | rfl | rfl <;> (show _ ≠ _) <;> simp <;> omega) hb2, HR.2.1.bel NE.out.1.2.2 hb2, Box.put3 HR.2.2.1 _ _ _, HR.2.2.2.1.belC (fun h => (NE.out.2.1 h).2.2) hb2, HR.2.2.2.2.belC (fun h => (NE.out.2.2.1 h).2.2) hb2⟩)
        clear hb1 hb2 HR
        exact HQ.out _ _ _ _ _ _ _ ⟨_, _, a2, a3, b2, c2, b3, c3, rfl, rfl, HR2.out.1, HR2.out.2.1, HR2.out.2.2.1, HR2.out.2.2.2.1, HR2.out.2.2.2.2, CP.out, NE.out.1, NE.out.2.1, NE.out.2.2.1, NE.out.2.2.2⟩
      · skip
        refine opW_take rfl rfl ?_
        go_simp
        obtain ⟨x5, hy⟩ : ∃ x, x = x2.alloc (.cells #[.int .i64 0, .int .i64 0, .slice none 0 0] 26) := ⟨_, rfl⟩
        rw [← hy]
        have hb : Below x2.heap.size x2 x5 := hy ▸ (Below.refl _ _).alloc (Nat.le_refl _) _
        have hsz := hb.size
        have BY := Lib.hid (show Box x5 x2.heap.size [.int .i64 0, .int .i64 0, .slice none 0 0] from hy ▸ Box.newA x2 [.int .i64 0, .int .i64 0, .slice none 0 0] _ rfl)
        have NY := Lib.hid (show x2.heap.size < x5.heap.size from by rw [hy]; simp)
        clear hy
        have F2_ := Lib.hid (F2.out.below hb)
        clear F2
        have F2 := F2_
        clear F2_
        have F3_ := Lib.hid (F3.out.below hb)
        clear F3
        have F3 := F3_
        clear F3_
        have C5 := Lib.hid (C2.out.step hb)
        clear hb hsz C2
        refine ⟨⟨(C5.out.get 1 rfl).cell, (C5.out.get 2 rfl).cell⟩, ?_⟩
        refine fm_skip rfl ?_
        refine fm_now ?_
        refine opW_take rfl rfl ?_
        go_simp
        obtain ⟨x6, hy⟩ : ∃ x, x = x5.alloc (.cells #[.int .i64 0, .int .i64 0, .slice none 0 0] 26) := ⟨_, rfl⟩
        rw [← hy]
        have hb : Below x5.heap.size x5 x6 := hy ▸ (Below.refl _ _).alloc (Nat.le_refl _) _
        have hsz := hb.size
        have BZ := Lib.hid (show Box x6 x5.heap.size [.int .i64 0, .int .i64 0, .slice none 0 0] from hy ▸ Box.newA x5 [.int .i64 0, .int .i64 0, .slice none 0 0] _ rfl)
        have NZ := Lib.hid (show x5.heap.size < x6.heap.size from by rw [hy]; simp)
        clear hy
        have F2_ := Lib.hid (F2.out.below hb)
        clear F2
        have F2 := F2_
        clear F2_
        have F3_ := Lib.hid (F3.out.below hb)
        clear F3
        have F3 := F3_
        clear F3_
        have BY_ := Lib.hid (BY.out.below hb)
        clear BY
        have BY := BY_
        clear BY_
        have C6 := Lib.hid (C5.out.step hb)
        clear hb hsz C5
        refine ⟨⟨(C6.out.get 1 rfl).cell, (C6.out.get 2 rfl).cell⟩, ?_⟩
        refine fm_skip rfl ?_
        have e2 := N2.out; have e3 := N3.out; have eY := NY.out; have eZ := NZ.out; have e0 := (C6.out.get 4 rfl).lt; have l4 := L4.out
        have NE := Lib.hid (show (w.heap.size + 1 + 1 + 1 + 1 < x2.heap.size ∧ w.heap.size + 1 + 1 + 1 + 1 < x5.heap.size ∧ x2.heap.size ≠ x5.heap.size) ∧ (u ≠ [] → w.heap.size + 1 + 1 + 1 + 1 < b2 ∧ b2 ≠ x2.heap.size ∧ b2 ≠ x5.heap.size) ∧ (v ≠ [] → w.heap.size + 1 + 1 + 1 + 1 < b3 ∧ b3 ≠ x2.heap.size ∧ b3 ≠ x5.heap.size) ∧ (u ≠ [] → v ≠ [] → b2 ≠ b3) from ⟨by omega, fun h => by have := e2.2.2.2.1 h; omega, fun h => by have := e3.2.2.2.1 h; omega, fun h k => by have := e2.2.2.2.1 h; have := e3.2.2.2.1 k; omega⟩)
        have CP := Lib.hid (show u.length ≤ c2 ∧ c2 ≤ maxLen ∧ v.length ≤ c3 ∧ c3 ≤ maxLen from ⟨e2.1, e2.2.1, e3.1, e3.2.1⟩)
        clear e2 e3 eY eZ e0 l4 N2 N3 NY NZ
        refine fm_nil ?_
        obtain ⟨o1, o2, o3⟩ := BY.out.facts
        obtain ⟨o4, o5, o6⟩ := BZ.out.facts
        have hyz := NE.out.1.2.2
        have hzy : x5.heap.size ≠ x2.heap.size := fun e => NE.out.1.2.2 e.symm
        go_simp
        go_wp2_with fail
        refine NoPanic.normal ?_
        clear o1 o2 o3 o4 o5 o6 hyz hzy
        have hb1 := bel_put3U (W := x6) (x2.heap.size) (.int .i64 ru) (.int .i64 d.length) (.slice a2 u.length c2)
        have HR : BoxU w (((x6.setCell ⟨x2.heap.size, 0, none⟩ (.int .i64 ru)).setCell ⟨x2.heap.size, 1, none⟩ (.int .i64 d.length)).setCell ⟨x2.heap.size, 2, none⟩ (.slice a2 u.length c2)) _ ∧ Box (((x6.setCell ⟨x2.heap.size, 0, none⟩ (.int .i64 ru)).setCell ⟨x2.heap.size, 1, none⟩ (.int .i64 d.length)).setCell ⟨x2.heap.size, 2, none⟩ (.slice a2 u.length c2)) (x2.heap.size) [.int .i64 ru, .int .i64 d.length, .slice a2 u.length c2] ∧ Box (((x6.setCell ⟨x2.heap.size, 0, none⟩ (.int .i64 ru)).setCell ⟨x2.heap.size, 1, none⟩ (.int .i64 d.length)).setCell ⟨x2.heap.size, 2, none⟩ (.slice a2 u.length c2)) (x5.heap.size) [.int .i64 0, .int .i64 0, .slice none 0 0] ∧ FS (((x6.setCell ⟨x2.heap.size, 0, none⟩ (.int .i64 ru)).setCell ⟨x2.heap.size, 1, none⟩ (.int .i64 d.length)).setCell ⟨x2.heap.size, 2, none⟩ (.slice a2 u.length c2)) a2 b2 u ∧ FS (((x6.setCell ⟨x2.heap.size, 0, none⟩ (.int .i64 ru)).setCell ⟨x2.heap.size, 1, none⟩ (.int .i64 d.length)).setCell ⟨x2.heap.size, 2, none⟩ (.slice a2 u.length c2)) a3 b3 v := ⟨C6.out.belV (by have := NE.out.1; omega) (fun p hp => by have := NE.out.1.1; simp only [List.mem_cons, List.not_mem_nil, or_false] at hp; rcases hp with rfl | rfl | rfl | rfl | rfl <;> (show _ ≠ _) <;> simp <;> omega) hb1, Box.put3 BY.out _ _ _, BZ.out.bel (fun e => NE.out.1.2.2 e.symm) hb1, F2.out.belC (fun h => (NE.out.2.1 h).2.1) hb1, F3.out.belC (fun h => (NE.out.2.2.1 h).2.1) hb1⟩
        generalize ((x6.setCell ⟨x2.heap.size, 0, none⟩ (.int .i64 ru)).setCell ⟨x2.heap.size, 1, none⟩ (.int .i64 d.length)).setCell ⟨x2.heap.size, 2, none⟩ (.slice a2 u.length c2) = v1 at *
        have hb2 := bel_put3U (W := v1) (x5.heap.size) (.int .i64 rv) (.int .i64 d.length) (.slice a3 v.length c3)
        have HR2 := Lib.hid (show BoxU w (((v1.setCell ⟨x5.heap.size, 0, none⟩ (.int .i64 rv)).setCell ⟨x5.heap.size, 1, none⟩ (.int .i64 d.length)).setCell ⟨x5.heap.size, 2, none⟩ (.slice a3 v.length c3)) _ ∧ Box (((v1.setCell ⟨x5.heap.size, 0, none⟩ (.int .i64 rv)).setCell ⟨x5.heap.size, 1, none⟩ (.int .i64 d.length)).setCell ⟨x5.heap.size, 2, none⟩ (.slice a3 v.length c3)) (x2.heap.size) [.int .i64 ru, .int .i64 d.length, .slice a2 u.length c2] ∧ Box (((v1.setCell ⟨x5.heap.size, 0, none⟩ (.int .i64 rv)).setCell ⟨x5.heap.size, 1, none⟩ (.int .i64 d.length)).setCell ⟨x5.heap.size, 2, none⟩ (.slice a3 v.length c3)) (x5.heap.size) [.int .i64 rv, .int .i64 d.length, .slice a3 v.length c3] ∧ FS (((v1.setCell ⟨x5.heap.size, 0, none⟩ (.int .i64 rv)).setCell ⟨x5.heap.size, 1, none⟩ (.int .i64 d.length)).setCell ⟨x5.heap.size, 2, none⟩ (.slice a3 v.length c3)) a2 b2 u ∧ FS (((v1.setCell ⟨x5.heap.size, 0, none⟩ (.int .i64 rv)).setCell ⟨x5.heap.size, 1, none⟩ (.int .i64 d.length)).setCell ⟨x5.heap.size, 2, none⟩ (.slice a3 v.length c3)) a3 b3 v from ⟨HR.1.belV (by have := NE.out.1; omega) (fun p hp => by have := NE.out.1.2.1; simp only [List.mem_cons, List.not_mem_nil, or_false] at hp; rcases hp with rfl | rfl | rfl | rfl | rfl <;> (show _ ≠ _) <;> simp <;> omega) hb2, HR.2.1.bel NE.out.1.2.2 hb2, Box.put3 HR.2.2.1 _ _ _, HR.2.2.2.1.belC (fun h => (NE.out.2.1 h).2.2) hb2, HR.2.2.2.2.belC (fun h => (NE.out.2.2.1 h).2.2) hb2⟩)
        clear hb1 hb2 HR
        exact HQ.out _ _ _ _ _ _ _ ⟨_, _, a2, a3, b2, c2, b3, c3, rfl, rfl, HR2.out.1, HR2.out.2.1, HR2.out.2.2.1, HR2.out.2.2.2.1, HR2.out.2.2.2.2, CP.out, NE.out.1, NE.out.2.1, NE.out.2.2.1, NE.out.2.2.2⟩
    · skip
      refine opW_take rfl rfl ?_
      go_simp
      obtain ⟨x7, hy⟩ : ∃ x, x = x1.alloc (.cells #[.int .i64 0, .int .i64 0, .slice none 0 0] 26) := ⟨_, rfl⟩
      rw [← hy]
      have hb : Below x1.heap.size x1 x7 := hy ▸ (Below.refl _ _).alloc (Nat.le_refl _) _
      have hsz := hb.size
      have BZ := Lib.hid (show Box x7 x1.heap.size [.int .i64 0, .int .i64 0, .slice none 0 0] from hy ▸ Box.newA x1 [.int .i64 0, .int .i64 0, .slice none 0 0] _ rfl)
      have NZ := Lib.hid (show x1.heap.size < x7.heap.size from by rw [hy]; simp)
      clear hy
      have F2_ := Lib.hid (F2.out.below hb)
      clear F2
      have F2 := F2_
      clear F2_
      have C7 := Lib.hid (C1.out.step hb)
      clear hb hsz C1
      refine ⟨⟨(C7.out.get 1 rfl).cell, (C7.out.get 2 rfl).cell⟩, ?_⟩
      refine fm_one1 ?_ ?_
      · skip
        refine opW_take rfl rfl ?_
        go_simp
        refine (HCv.out _ C7.out.below).mono ?_
        rintro e_ x8 ⟨a3, b3, c3, rfl, hF, k3, k4, k1, k2, hb⟩
        have hsz := hb.size
        have F3 := Lib.hid hF
        have N3 := Lib.hid (show _ ∧ _ ∧ _ ∧ _ ∧ _ from ⟨k1, k2, k3, k4, hsz⟩)
        clear hF k1 k2 k3 k4
        have F2_ := Lib.hid (F2.out.below hb)
        clear F2
        have F2 := F2_
        clear F2_
        have BZ_ := Lib.hid (BZ.out.below hb)
        clear BZ
        have BZ := BZ_
        clear BZ_
        have C8 := Lib.hid (C7.out.step hb)
        clear hb hsz C7
        refine ⟨⟨(C8.out.get 1 rfl).cell, (C8.out.get 2 rfl).cell⟩, ?_⟩
        refine fm_now ?_
        refine opW_take rfl rfl ?_
        go_simp
        obtain ⟨x9, hy⟩ : ∃ x, x = x8.alloc (.cells #[.int .i64 0, .int .i64 0, .slice none 0 0] 26) := ⟨_, rfl⟩
        rw [← hy]
        have hb : Below x8.heap.size x8 x9 := hy ▸ (Below.refl _ _).alloc (Nat.le_refl _) _
        have hsz := hb.size
        have BY := Lib.hid (show Box x9 x8.heap.size [.int .i64 0, .int .i64 0, .slice none 0 0] from hy ▸ Box.newA x8 [.int .i64 0, .int .i64 0, .slice none 0 0] _ rfl)
        have NY := Lib.hid (show x8.heap.size < x9.heap.size from by rw [hy]; simp)
        clear hy
        have F2_ := Lib.hid (F2.out.below hb)
        clear F2
        have F2 := F2_
        clear F2_
        have F3_ := Lib.hid (F3.out.below hb)
        clear F3
        have F3 := F3_
        clear F3_
        have BZ_ := Lib.hid (BZ.out.below hb)
        clear BZ
        have BZ := BZ_
        clear BZ_
        have C9 := Lib.hid (C8.out.step hb)
        clear hb hsz C8
        refine ⟨⟨(C9.out.get 1 rfl).cell, (C9.out.get 2 rfl).cell⟩, ?_⟩
        refine fm_skip rfl ?_
        refine fm_skip rfl ?_
        have e2 := N2.out; have e3 := N3.out; have eY := NY.out; have eZ := NZ.out; have e0 := (C9.out.get 4 rfl).lt; have l4 := L4.out
        have NE := Lib.hid (show (w.heap.size + 1 + 1 + 1 + 1 < x8.heap.size ∧ w.heap.size + 1 + 1 + 1 + 1 < x1.heap.size ∧ x8.heap.size ≠ x1.heap.size) ∧ (u ≠ [] → w.heap.size + 1 + 1 + 1 + 1 < b2 ∧ b2 ≠ x8.heap.size ∧ b2 ≠ x1.heap.size) ∧ (v ≠ [] → w.heap.size + 1 + 1 + 1 + 1 < b3 ∧ b3 ≠ x8.heap.size ∧ b3 ≠ x1.heap.size) ∧ (u ≠ [] → v ≠ [] → b2 ≠ b3) from ⟨by omega, fun h => by have := e2.2.2.2.1 h; omega, fun h => by have := e3.2.2.2.1 h; omega, fun h k => by have := e2.2.2.2.1 h; have := e3.2.2.2.1 k; omega⟩)
        have CP := Lib.hid (show u.length ≤ c2 ∧ c2 ≤ maxLen ∧ v.length ≤ c3 ∧ c3 ≤ maxLen from ⟨e2.1, e2.2.1, e3.1, e3.2.1⟩)
        clear e2 e3 eY eZ e0 l4 N2 N3 NY NZ
        refine fm_nil ?_
        obtain ⟨o1, o2, o3⟩ := BY.out.facts
        obtain ⟨o4, o5, o6⟩ := BZ.out.facts
        have hyz := NE.out.1.2.2
        have hzy : x1.heap.size ≠ x8.heap.size := fun e => NE.out.1.2.2 e.symm
        go_simp
        go_wp2_with fail
        refine NoPanic.normal ?_
        clear o1 o2 o3 o4 o5 o6 hyz hzy
        have hb1 := bel_put3U (W := x9) (x8.heap.size) (.int .i64 ru) (.int .i64 d.length) (.slice a2 u.length c2)
        have HR : BoxU w (((x9.setCell ⟨x8.heap.size, 0, none⟩ (.int .i64 ru)).setCell ⟨x8.heap.size, 1, none⟩ (.int .i64 d.length)).setCell ⟨x8.heap.size, 2, none⟩ (.slice a2 u.length c2)) _ ∧ Box (((x9.setCell ⟨x8.heap.size, 0, none⟩ (.int .i64 ru)).setCell ⟨x8.heap.size, 1, none⟩ (.int .i64 d.length)).setCell ⟨x8.heap.size, 2, none⟩ (.slice a2 u.length c2)) (x8.heap.size) [.int .i64 ru, .int .i64 d.length, .slice a2 u.length c2] ∧ Box (((x9.setCell ⟨x8.heap.size, 0, none⟩ (.int .i64 ru)).setCell ⟨x8.heap.size, 1, none⟩ (.int .i64 d.length)).setCell ⟨x8.heap.size, 2, none⟩ (.slice a2 u.length c2)) (x1.heap.size) [.int .i64 0, .int .i64 0, .slice none 0 0] ∧ FS (((x9.setCell ⟨x8.heap.size, 0, none⟩ (.int .i64 ru)).setCell ⟨x8.heap.size, 1, none⟩ (.int .i64 d.length)).setCell ⟨x8.heap.size, 2, none⟩ (.slice a2 u.length c2)) a2 b2 u ∧ FS (((x9.setCell ⟨x8.heap.size, 0, none⟩ (.int .i64 ru)).setCell ⟨x8.heap.size, 1, none⟩ (.int .i64 d.length)).setCell ⟨x8.heap.size, 2, none⟩ (.slice a2 u.length c2)) a3 b3 v := ⟨C9.out.belV (by have := NE.out.1; omega) (fun p hp => by have := NE.out.1.1; simp only [List.mem_cons, List.not_mem_nil, or_false] at hp; rcases hp with rfl | rfl | rfl | rfl | rfl <;> (show _ ≠ _) <;> simp <;> omega) hb1, Box.put3 BY.out _ _ _, BZ.out.bel (fun e => NE.out.1.2.2 e.symm) hb1, F2.out.belC (fun h => (NE.out.2.1 h).2.1) hb1, F3.out.belC (fun h => (NE.out.2.2.1 h).2.1) hb1⟩
        generalize ((x9.setCell ⟨x8.heap.size, 0, none⟩ (.int .i64 ru)).setCell ⟨x8.heap.size, 1, none⟩ (.int .i64 d.length)).setCell ⟨x8.heap.size, 2, none⟩ (.slice a2 u.length c2) = v1 at *
        have hb2 := bel_put3U (W := v1) (x1.heap.size) (.int .i64 rv) (.int .i64 d.length) (.slice a3 v.length c3)
        have HR2 := Lib.hid (show BoxU w (((v1.setCell ⟨x1.heap.size, 0, none⟩ (.int .i64 rv)).setCell ⟨x1.heap.size, 1, none⟩ (.int .i64 d.length)).setCell ⟨x1.heap.size, 2, none⟩ (.slice a3 v.length c3)) _ ∧ Box (((v1.setCell ⟨x1.heap.size, 0, none⟩ (.int .i64 rv)).setCell ⟨x1.heap.size, 1, none⟩ (.int .i64 d.length)).setCell ⟨x1.heap.size, 2, none⟩ (.slice a3 v.length c3)) (x8.heap.size) [.int .i64 ru, .int .i64 d.length, .slice a2 u.length c2] ∧ Box (((v1.setCell ⟨x1.heap.size, 0, none⟩ (.int .i64 rv)).setCell ⟨x1.heap.size, 1, none⟩ (.int .i64 d.length)).setCell ⟨x1.heap.size, 2, none⟩ (.slice a3 v.length c3)) (x1.heap.size) [.int .i64 rv, .int .i64 d.length, .slice a3 v.length c3] ∧ FS (((v1.setCell ⟨x1.heap.size, 0, none⟩ (.int .i64 rv)).setCell ⟨x1.heap.size, 1, none⟩ (.int .i64 d.length)).setCell ⟨x1.heap.size, 2, none⟩ (.slice a3 v.length c3)) a2 b2 u ∧ FS (((v1.setCell ⟨x1.heap.size, 0, none⟩ (.int .i64 rv)).setCell ⟨x1.heap.size, 1, none⟩ (.int .i64 d.length)).setCell ⟨x1.heap.size, 2, none⟩ (.slice a3 v.length c3)) a3 b3 v from ⟨HR.1.belV (by have := NE.out.1; omega) (fun p hp => by have := NE.out.1.2.1; simp only [List.mem_cons, List.not_mem_nil, or_false] at hp; rcases hp with rfl | rfl | rfl | rfl | rfl <;> (show _ ≠ _) <;> simp <;> omega) hb2, HR.2.1.bel NE.out.1.2.2 hb2, Box.put3 HR.2.2.1 _ _ _, HR.2.2.2.1.belC (fun h => (NE.out.2.1 h).2.2) hb2, HR.2.2.2.2.belC (fun h => (NE.out.2.2.1 h).2.2) hb2⟩)
        clear hb1 hb2 HR
        exact HQ.out _ _ _ _ _ _ _ ⟨_, _, a2, a3, b2, c2, b3, c3, rfl, rfl, HR2.out.1, HR2.out.2.1, HR2.out.2.2.1, HR2.out.2.2.2.1, HR2.out.2.2.2.2, CP.out, NE.out.1, NE.out.2.1, NE.out.2.2.1, NE.out.2.2.2⟩
      · skip
        refine opW_take rfl rfl ?_
        go_simp
        obtain ⟨x10, hy⟩ : ∃ x, x = x7.alloc (.cells #[.int .i64 0, .int .i64 0, .slice none 0 0] 26) := ⟨_, rfl⟩
        rw [← hy]
        have hb : Below x7.heap.size x7 x10 := hy ▸ (Below.refl _ _).alloc (Nat.le_refl _) _
        have hsz := hb.size
        have BY := Lib.hid (show Box x10 x7.heap.size [.int .i64 0, .int .i64 0, .slice none 0 0] from hy ▸ Box.newA x7 [.int .i64 0, .int .i64 0, .slice none 0 0] _ rfl)
        have NY := Lib.hid (show x7.heap.size < x10.heap.size from by rw [hy]; simp)
        clear hy
        have F2_ := Lib.hid (F2.out.below hb)
        clear F2
        have F2 := F2_
        clear F2_
        have BZ_ := Lib.hid (BZ.out.below hb)
        clear BZ
        have BZ := BZ_
        clear BZ_
        have C10 := Lib.hid (C7.out.step hb)
        clear hb hsz C7
        refine ⟨⟨(C10.out.get 1 rfl).cell, (C10.out.get 2 rfl).cell⟩, ?_⟩
        refine fm_one ?_
        refine opW_take rfl rfl ?_
        go_simp
        refine (HCv.out _ C10.out.below).mono ?_
        rintro e_ x11 ⟨a3, b3, c3, rfl, hF, k3, k4, k1, k2, hb⟩
        have hsz := hb.size
        have F3 := Lib.hid hF
        have N3 := Lib.hid (show _ ∧ _ ∧ _ ∧ _ ∧ _ from ⟨k1, k2, k3, k4, hsz⟩)
        clear hF k1 k2 k3 k4
        have F2_ := Lib.hid (F2.out.below hb)
        clear F2
        have F2 := F2_
        clear F2_
        have BY_ := Lib.hid (BY.out.below hb)
        clear BY
        have BY := BY_
        clear BY_
        have BZ_ := Lib.hid (BZ.out.below hb)
        clear BZ
        have BZ := BZ_
        clear BZ_
        have C11 := Lib.hid (C10.out.step hb)
        clear hb hsz C10
        refine ⟨⟨(C11.out.get 1 rfl).cell, (C11.out.get 2 rfl).cell⟩, ?_⟩
        refine fm_skip rfl ?_
        refine fm_skip rfl ?_
        have e2 := N2.out; have e3 := N3.out; have eY := NY.out; have eZ := NZ.out; have e0 := (C11.out.get 4 rfl).lt; have l4 := L4.out
        have NE := Lib.hid (show (w.heap.size + 1 + 1 + 1 + 1 < x7.heap.size ∧ w.heap.size + 1 + 1 + 1 + 1 < x1.heap.size ∧ x7.heap.size ≠ x1.heap.size) ∧ (u ≠ [] → w.heap.size + 1 + 1 + 1 + 1 < b2 ∧ b2 ≠ x7.heap.size ∧ b2 ≠ x1.heap.size) ∧ (v ≠ [] → w.heap.size + 1 + 1 + 1 + 1 < b3 ∧ b3 ≠ x7.heap.size ∧ b3 ≠ x1.heap.size) ∧ (u ≠ [] → v ≠ [] → b2 ≠ b3) from ⟨by omega, fun h => by have := e2.2.2.2.1 h; omega, fun h => by have := e3.2.2.2.1 h; omega, fun h k => by have := e2.2.2.2.1 h; have := e3.2.2.2.1 k; omega⟩)
        have CP := Lib.hid (show u.length ≤ c2 ∧ c2 ≤ maxLen ∧ v.length ≤ c3 ∧ c3 ≤ maxLen from ⟨e2.1, e2.2.1, e3.1, e3.2.1⟩)
        clear e2 e3 eY eZ e0 l4 N2 N3 NY NZ
        refine fm_nil ?_
        obtain ⟨o1, o2, o3⟩ := BY.out.facts
        obtain ⟨o4, o5, o6⟩ := BZ.out.facts
        have hyz := NE.out.1.2.2
        have hzy : x1.heap.size ≠ x7.heap.size := fun e => NE.out.1.2.2 e.symm
        go_simp
        go_wp2_with fail
        refine NoPanic.normal ?_
        clear o1 o2 o3 o4 o5 o6 hyz hzy
        have hb1 := bel_put3U (W := x11) (x7.heap.size) (.int .i64 ru) (.int .i64 d.length) (.slice a2 u.length c2)
        have HR : BoxU w (((x11.setCell ⟨x7.heap.size, 0, none⟩ (.int .i64 ru)).setCell ⟨x7.heap.size, 1, none⟩ (.int .i64 d.length)).setCell ⟨x7.heap.size, 2, none⟩ (.slice a2 u.length c2)) _ ∧ Box (((x11.setCell ⟨x7.heap.size, 0, none⟩ (.int .i64 ru)).setCell ⟨x7.heap.size, 1, none⟩ (.int .i64 d.length)).setCell ⟨x7.heap.size, 2, none⟩ (.slice a2 u.length c2)) (x7.heap.size) [.int .i64 ru, .int .i64 d.length, .slice a2 u.length c2] ∧ Box (((x11.setCell ⟨x7.heap.size, 0, none⟩ (.int .i64 ru)).setCell ⟨x7.heap.size, 1, none⟩ (.int .i64 d.length)).setCell ⟨x7.heap.size, 2, none⟩ (.slice a2 u.length c2)) (x1.heap.size) [.int .i64 0, .int .i64 0, .slice none 0 0] ∧ FS (((x11.setCell ⟨x7.heap.size, 0, none⟩ (.int .i64 ru)).setCell ⟨x7.heap.size, 1, none⟩ (.int .i64 d.length)).setCell ⟨x7.heap.size, 2, none⟩ (.slice a2 u.length c2)) a2 b2 u ∧ FS (((x11.setCell ⟨x7.heap.size, 0, none⟩ (.int .i64 ru)).setCell ⟨x7.heap.size, 1, none⟩ (.int .i64 d.length)).setCell ⟨x7.heap.size, 2, none⟩ (.slice a2 u.length c2)) a3 b3 v := ⟨C11.out.belV (by have := NE.out.1; omega) (fun p hp => by have := NE.out.1.1; simp only [List.mem_cons, List.not_mem_nil, or_false] at hp; rcases hp with rfl | rfl | rfl | rfl | rfl <;> (show _ ≠ _) <;> simp <;> omega) hb1, Box.put3 BY.out _ _ _, BZ.out.bel (fun e => NE.out.1.2.2 e.symm) hb1, F2.out.belC (fun h => (NE.out.2.1 h).2.1) hb1, F3.out.belC (fun h => (NE.out.2.2.1 h).2.1) hb1⟩
        generalize ((x11.setCell ⟨x7.heap.size, 0, none⟩ (.int .i64 ru)).setCell ⟨x7.heap.size, 1, none⟩ (.int .i64 d.length)).setCell ⟨x7.heap.size, 2, none⟩ (.slice a2 u.length c2) = v1 at *
        have hb2 := bel_put3U (W := v1) (x1.heap.size) (.int .i64 rv) (.int .i64 d.length) (.slice a3 v.length c3)
        have HR2 := Lib.hid (show BoxU w (((v1.setCell ⟨x1.heap.size, 0, none⟩ (.int .i64 rv)).setCell ⟨x1.heap.size, 1, none⟩ (.int .i64 d.length)).setCell ⟨x1.heap.size, 2, none⟩ (.slice a3 v.length c3)) _ ∧ Box (((v1.setCell ⟨x1.heap.size, 0, none⟩ (.int .i64 rv)).setCell ⟨x1.heap.size, 1, none⟩ (.int .i64 d.length)).setCell ⟨x1.heap.size, 2, none⟩ (.slice a3 v.length c3)) (x7.heap.size) [.int .i64 ru, .int .i64 d.length, .slice a2 u.length c2] ∧ Box (((v1.setCell ⟨x1.heap.size, 0, none⟩ (.int .i64 rv)).setCell ⟨x1.heap.size, 1, none⟩ (.int .i64 d.length)).setCell ⟨x1.heap.size, 2, none⟩ (.slice a3 v.length c3)) (x1.heap.size) [.int .i64 rv, .int .i64 d.length, .slice a3 v.length c3] ∧ FS (((v1.setCell ⟨x1.heap.size, 0, none⟩ (.int .i64 rv)).setCell ⟨x1.heap.size, 1, none⟩ (.int .i64 d.length)).setCell ⟨x1.heap.size, 2, none⟩ (.slice a3 v.length c3)) a2 b2 u ∧ FS (((v1.setCell ⟨x1.heap.size, 0, none⟩ (.int .i64 rv)).setCell ⟨x1.heap.size, 1, none⟩ (.int .i64 d.length)).setCell ⟨x1.heap.size, 2, none⟩ (.slice a3 v.length c3)) a3 b3 v from ⟨HR.1.belV (by have := NE.out.1; omega) (fun p hp => by have := NE.out.1.2.1; simp only [List.mem_cons, List.not_mem_nil, or_false] at hp; rcases hp with rfl | rfl | rfl | rfl | rfl <;> (show _ ≠ _) <;> simp <;> omega) hb2, HR.2.1.bel NE.out.1.2.2 hb2, Box.put3 HR.2.2.1 _ _ _, HR.2.2.2.1.belC (fun h => (NE.out.2.1 h).2.2) hb2, HR.2.2.2.2.belC (fun h => (NE.out.2.2.1 h).2.2) hb2⟩)
        clear hb1 hb2 HR
        exact HQ.out _ _ _ _ _ _ _ ⟨_, _, a2, a3, b2, c2, b3, c3, rfl, rfl, HR2.out.1, HR2.out.2.1, HR2.out.2.2.1, HR2.out.2.2.2.1, HR2.out.2.2.2.2, CP.out, NE.out.1, NE.out.2.1, NE.out.2.2.1, NE.out.2.2.2⟩
    · skip
      refine opW_take rfl rfl ?_
      go_simp
      obtain ⟨x12, hy⟩ : ∃ x, x = x1.alloc (.cells #[.int .i64 0, .int .i64 0, .slice none 0 0] 26) := ⟨_, rfl⟩
      rw [← hy]
      have hb : Below x1.heap.size x1 x12 := hy ▸ (Below.refl _ _).alloc (Nat.le_refl _) _
      have hsz := hb.size
      have BY := Lib.hid (show Box x12 x1.heap.size [.int .i64 0, .int .i64 0, .slice none 0 0] from hy ▸ Box.newA x1 [.int .i64 0, .int .i64 0, .slice none 0 0] _ rfl)
      have NY := Lib.hid (show x1.heap.size < x12.heap.size from by rw [hy]; simp)
      clear hy
      have F2_ := Lib.hid (F2.out.below hb)
      clear F2
      have F2 := F2_
      clear F2_
      have C12 := Lib.hid (C1.out.step hb)
      clear hb hsz C1
      refine ⟨⟨(C12.out.get 1 rfl).cell, (C12.out.get 2 rfl).cell⟩, ?_⟩
      refine fm_one1 ?_ ?_
      · skip
        refine opW_take rfl rfl ?_
        go_simp
        refine (HCv.out _ C12.out.below).mono ?_
        rintro e_ x13 ⟨a3, b3, c3, rfl, hF, k3, k4, k1, k2, hb⟩
        have hsz := hb.size
        have F3 := Lib.hid hF
        have N3 := Lib.hid (show _ ∧ _ ∧ _ ∧ _ ∧ _ from ⟨k1, k2, k3, k4, hsz⟩)
        clear hF k1 k2 k3 k4
        have F2_ := Lib.hid (F2.out.below hb)
        clear F2
        have F2 := F2_
        clear F2_
        have BY_ := Lib.hid (BY.out.below hb)
        clear BY
        have BY := BY_
        clear BY_
        have C13 := Lib.hid (C12.out.step hb)
        clear hb hsz C12
        refine ⟨⟨(C13.out.get 1 rfl).cell, (C13.out.get 2 rfl).cell⟩, ?_⟩
        refine fm_skip rfl ?_
        refine fm_now ?_
        refine opW_take rfl rfl ?_
        go_simp
        obtain ⟨x14, hy⟩ : ∃ x, x = x13.alloc (.cells #[.int .i64 0, .int .i64 0, .slice none 0 0] 26) := ⟨_, rfl⟩
        rw [← hy]
        have hb : Below x13.heap.size x13 x14 := hy ▸ (Below.refl _ _).alloc (Nat.le_refl _) _
        have hsz := hb.size
        have BZ := Lib.hid (show Box x14 x13.heap.size [.int .i64 0, .int .i64 0, .slice none 0 0] from hy ▸ Box.newA x13 [.int .i64 0, .int .i64 0, .slice none 0 0] _ rfl)
        have NZ := Lib.hid (show x13.heap.size < x14.heap.size from by rw [hy]; simp)
        clear hy
        have F2_ := Lib.hid (F2.out.below hb)
        clear F2
        have F2 := F2_
        clear F2_
        have F3_ := Lib.hid (F3.out.below hb)
        clear F3
        have F3 := F3_
        clear F3_
        have BY_ := Lib.hid (BY.out.below hb)
        clear BY
        have BY := BY_
        clear BY_
        have C14 := Lib.hid (C13.out.step hb)
        clear hb hsz C13
        refine ⟨⟨(C14.out.get 1 rfl).cell, (C14.out.get 2 rfl).cell⟩, ?_⟩
        refine fm_skip rfl ?_
        have e2 := N2.out; have e3 := N3.out; have eY := NY.out; have eZ := NZ.out; have e0 := (C14.out.get 4 rfl).lt; have l4 := L4.out
        have NE := Lib.hid (show (w.heap.size + 1 + 1 + 1 + 1 < x1.heap.size ∧ w.heap.size + 1 + 1 + 1 + 1 < x13.heap.size ∧ x1.heap.size ≠ x13.heap.size) ∧ (u ≠ [] → w.heap.size + 1 + 1 + 1 + 1 < b2 ∧ b2 ≠ x1.heap.size ∧ b2 ≠ x13.heap.size) ∧ (v ≠ [] → w.heap.size + 1 + 1 + 1 + 1 < b3 ∧ b3 ≠ x1.heap.size ∧ b3 ≠ x13.heap.size) ∧ (u ≠ [] → v ≠ [] → b2 ≠ b3) from ⟨by omega, fun h => by have := e2.2.2.2.1 h; omega, fun h => by have := e3.2.2.2.1 h; omega, fun h k => by have := e2.2.2.2.1 h; have := e3.2.2.2.1 k; omega⟩)
        have CP := Lib.hid (show u.length ≤ c2 ∧ c2 ≤ maxLen ∧ v.length ≤ c3 ∧ c3 ≤ maxLen from ⟨e2.1, e2.2.1, e3.1, e3.2.1⟩)
        clear e2 e3 eY eZ e0 l4 N2 N3 NY NZ
        refine fm_nil ?_
        obtain ⟨o1, o2, o3⟩ := BY.out.facts
        obtain ⟨o4, o5, o6⟩ := BZ.out.facts
        have hyz := NE.out.1.2.2
        have hzy : x13.heap.size ≠ x1.heap.size := fun e => NE.out.1.2.2 e.symm
        go_simp
        go_wp2_with fail
        refine NoPanic.normal ?_
        clear o1 o2 o3 o4 o5 o6 hyz hzy
        have hb1 := bel_put3U (W := x14) (x1.heap.size) (.int .i64 ru) (.int .i64 d.length) (.slice a2 u.length c2)
        have HR : BoxU w (((x14.setCell ⟨x1.heap.size, 0, none⟩ (.int .i64 ru)).setCell ⟨x1.heap.size, 1, none⟩ (.int .i64 d.length)).setCell ⟨x1.heap.size, 2, none⟩ (.slice a2 u.length c2)) _ ∧ Box (((x14.setCell ⟨x1.heap.size, 0, none⟩ (.int .i64 ru)).setCell ⟨x1.heap.size, 1, none⟩ (.int .i64 d.length)).setCell ⟨x1.heap.size, 2, none⟩ (.slice a2 u.length c2)) (x1.heap.size) [.int .i64 ru, .int .i64 d.length, .slice a2 u.length c2] ∧ Box (((x14.setCell ⟨x1.heap.size, 0, none⟩ (.int .i64 ru)).setCell ⟨x1.heap.size, 1, none⟩ (.int .i64 d.length)).setCell ⟨x1.heap.size, 2, none⟩ (.slice a2 u.length c2)) (x13.heap.size) [.int .i64 0, .int .i64 0, .slice none 0 0] ∧ FS (((x14.setCell ⟨x1.heap.size, 0, none⟩ (.int .i64 ru)).setCell ⟨x1.heap.size, 1, none⟩ (.int .i64 d.length)).setCell ⟨x1.heap.size, 2, none⟩ (.slice a2 u.length c2)) a2 b2 u ∧ FS (((x14.setCell ⟨x1.heap.size, 0, none⟩ (.int .i64 ru)).setCell ⟨x1.heap.size, 1, none⟩ (.int .i64 d.length)).setCell ⟨x1.heap.size, 2, none⟩ (.slice a2 u.length c2)) a3 b3 v := ⟨C14.out.belV (by have := NE.out.1; omega) (fun p hp => by have := NE.out.1.1; simp only [List.mem_cons, List.not_mem_nil, or_false] at hp; rcases hp with rfl | rfl | rfl | rfl | rfl <;> (show _ ≠ _) <;> simp <;> omega) hb1, Box.put3 BY.out _ _ _, BZ.out.bel (fun e => NE.out.1.2.2 e.symm) hb1, F2.out.belC (fun h => (NE.out.2.1 h).2.1) hb1, F3.out.belC (fun h => (NE.out.2.2.1 h).2.1) hb1⟩
        generalize ((x14.setCell ⟨x1.heap.size, 0, none⟩ (.int .i64 ru)).setCell ⟨x1.heap.size, 1, none⟩ (.int .i64 d.length)).setCell ⟨x1.heap.size, 2, none⟩ (.slice a2 u.length c2) = v1 at *
        have hb2 := bel_put3U (W := v1) (x13.heap.size) (.int .i64 rv) (.int .i64 d.length) (.slice a3 v.length c3)
        have HR2 := Lib.hid (show BoxU w (((v1.setCell ⟨x13.heap.size, 0, none⟩ (.int .i64 rv)).setCell ⟨x13.heap.size, 1, none⟩ (.int .i64 d.length)).setCell ⟨x13.heap.size, 2, none⟩ (.slice a3 v.length c3)) _ ∧ Box (((v1.setCell ⟨x13.heap.size, 0, none⟩ (.int .i64 rv)).setCell ⟨x13.heap.size, 1, none⟩ (.int .i64 d.length)).setCell ⟨x13.heap.size, 2, none⟩ (.slice a3 v.length c3)) (x1.heap.size) [.int .i64 ru, .int .i64 d.length, .slice a2 u.length c2] ∧ Box (((v1.setCell ⟨x13.heap.size, 0, none⟩ (.int .i64 rv)).setCell ⟨x13.heap.size, 1, none⟩ (.int .i64 d.length)).setCell ⟨x13.heap.size, 2, none⟩ (.slice a3 v.length c3)) (x13.heap.size) [.int .i64 rv, .int .i64 d.length, .slice a3 v.length c3] ∧ FS (((v1.setCell ⟨x13.heap.size, 0, none⟩ (.int .i64 rv)).setCell ⟨x13.heap.size, 1, none⟩ (.int .i64 d.length)).setCell ⟨x13.heap.size, 2, none⟩ (.slice a3 v.length c3)) a2 b2 u ∧ FS (((v1.setCell ⟨x13.heap.size, 0, none⟩ (.int .i64 rv)).setCell ⟨x13.heap.size, 1, none⟩ (.int .i64 d.length)).setCell ⟨x13.heap.size, 2, none⟩ (.slice a3 v.length c3)) a3 b3 v from ⟨HR.1.belV (by have := NE.out.1; omega) (fun p hp => by have := NE.out.1.2.1; simp only [List.mem_cons, List.not_mem_nil, or_false] at hp; rcases hp with rfl | rfl | rfl | rfl | rfl <;> (show _ ≠ _) <;> simp <;> omega) hb2, HR.2.1.bel NE.out.1.2.2 hb2, Box.put3 HR.2.2.1 _ _ _, HR.2.2.2.1.belC (fun h => (NE.out.2.1 h).2.2) hb2, HR.2.2.2.2.belC (fun h => (NE.out.2.2.1 h).2.2) hb2⟩)
        clear hb1 hb2 HR
        exact HQ.out _ _ _ _ _ _ _ ⟨_, _, a2, a3, b2, c2, b3, c3, rfl, rfl, HR2.out.1, HR2.out.2.1, HR2.out.2.2.1, HR2.out.2.2.2.1, HR2.out.2.2.2.2, CP.out, NE.out.1, NE.out.2.1, NE.out.2.2.1, NE.out.2.2.2⟩
      · skip
        refine opW_take rfl rfl ?_
        go_simp
        obtain ⟨x15, hy⟩ : ∃ x, x = x12.alloc (.cells #[.int .i64 0, .int .i64 0, .slice none 0 0] 26) := ⟨_, rfl⟩
        rw [← hy]
        have hb : Below x12.heap.size x12 x15 := hy ▸ (Below.refl _ _).alloc (Nat.le_refl _) _
        have hsz := hb.size
        have BZ := Lib.hid (show Box x15 x12.heap.size [.int .i64 0, .int .i64 0, .slice none 0 0] from hy ▸ Box.newA x12 [.int .i64 0, .int .i64 0, .slice none 0 0] _ rfl)
        have NZ := Lib.hid (show x12.heap.size < x15.heap.size from by rw [hy]; simp)
        clear hy
        have F2_ := Lib.hid (F2.out.below hb)
        clear F2
        have F2 := F2_
        clear F2_
        have BY_ := Lib.hid (BY.out.below hb)
        clear BY
        have BY := BY_
        clear BY_
        have C15 := Lib.hid (C12.out.step hb)
        clear hb hsz C12
        refine ⟨⟨(C15.out.get 1 rfl).cell, (C15.out.get 2 rfl).cell⟩, ?_⟩
        refine fm_one ?_
        refine opW_take rfl rfl ?_
        go_simp
        refine (HCv.out _ C15.out.below).mono ?_
        rintro e_ x16 ⟨a3, b3, c3, rfl, hF, k3, k4, k1, k2, hb⟩
        have hsz := hb.size
        have F3 := Lib.hid hF
        have N3 := Lib.hid (show _ ∧ _ ∧ _ ∧ _ ∧ _ from ⟨k1, k2, k3, k4, hsz⟩)
        clear hF k1 k2 k3 k4
        have F2_ := Lib.hid (F2.out.below hb)
        clear F2
        have F2 := F2_
        clear F2_
        have BY_ := Lib.hid (BY.out.below hb)
        clear BY
        have BY := BY_
        clear BY_
        have BZ_ := Lib.hid (BZ.out.below hb)
        clear BZ
        have BZ := BZ_
        clear BZ_
        have C16 := Lib.hid (C15.out.step hb)
        clear hb hsz C15
        refine ⟨⟨(C16.out.get 1 rfl).cell, (C16.out.get 2 rfl).cell⟩, ?_⟩
        refine fm_skip rfl ?_
        refine fm_skip rfl ?_
        have e2 := N2.out; have e3 := N3.out; have eY := NY.out; have eZ := NZ.out; have e0 := (C16.out.get 4 rfl).lt; have l4 := L4.out
        have NE := Lib.hid (show (w.heap.size + 1 + 1 + 1 + 1 < x1.heap.size ∧ w.heap.size + 1 + 1 + 1 + 1 < x12.heap.size ∧ x1.heap.size ≠ x12.heap.size) ∧ (u ≠ [] → w.heap.size + 1 + 1 + 1 + 1 < b2 ∧ b2 ≠ x1.heap.size ∧ b2 ≠ x12.heap.size) ∧ (v ≠ [] → w.heap.size + 1 + 1 + 1 + 1 < b3 ∧ b3 ≠ x1.heap.size ∧ b3 ≠ x12.heap.size) ∧ (u ≠ [] → v ≠ [] → b2 ≠ b3) from ⟨by omega, fun h => by have := e2.2.2.2.1 h; omega, fun h => by have := e3.2.2.2.1 h; omega, fun h k => by have := e2.2.2.2.1 h; have := e3.2.2.2.1 k; omega⟩)
        have CP := Lib.hid (show u.length ≤ c2 ∧ c2 ≤ maxLen ∧ v.length ≤ c3 ∧ c3 ≤ maxLen from ⟨e2.1, e2.2.1, e3.1, e3.2.1⟩)
        clear e2 e3 eY eZ e0 l4 N2 N3 NY NZ
        refine fm_nil ?_
        obtain ⟨o1, o2, o3⟩ := BY.out.facts
        obtain ⟨o4, o5, o6⟩ := BZ.out.facts
        have hyz := NE.out.1.2.2
        have hzy : x12.heap.size ≠ x1.heap.size := fun e => NE.out.1.2.2 e.symm
        go_simp
        go_wp2_with fail
        refine NoPanic.normal ?_
        clear o1 o2 o3 o4 o5 o6 hyz hzy
        have hb1 := bel_put3U (W := x16) (x1.heap.size) (.int .i64 ru) (.int .i64 d.length) (.slice a2 u.length c2)
        have HR : BoxU w (((x16.setCell ⟨x1.heap.size, 0, none⟩ (.int .i64 ru)).setCell ⟨x1.heap.size, 1, none⟩ (.int .i64 d.length)).setCell ⟨x1.heap.size, 2, none⟩ (.slice a2 u.length c2)) _ ∧ Box (((x16.setCell ⟨x1.heap.size, 0, none⟩ (.int .i64 ru)).setCell ⟨x1.heap.size, 1, none⟩ (.int .i64 d.length)).setCell ⟨x1.heap.size, 2, none⟩ (.slice a2 u.length c2)) (x1.heap.size) [.int .i64 ru, .int .i64 d.length, .slice a2 u.length c2] ∧ Box (((x16.setCell ⟨x1.heap.size, 0, none⟩ (.int .i64 ru)).setCell ⟨x1.heap.size, 1, none⟩ (.int .i64 d.length)).setCell ⟨x1.heap.size, 2, none⟩ (.slice a2 u.length c2)) (x12.heap.size) [.int .i64 0, .int .i64 0, .slice none 0 0] ∧ FS (((x16.setCell ⟨x1.heap.size, 0, none⟩ (.int .i64 ru)).setCell ⟨x1.heap.size, 1, none⟩ (.int .i64 d.length)).setCell ⟨x1.heap.size, 2, none⟩ (.slice a2 u.length c2)) a2 b2 u ∧ FS (((x16.setCell ⟨x1.heap.size, 0, none⟩ (.int .i64 ru)).setCell ⟨x1.heap.size, 1, none⟩ (.int .i64 d.length)).setCell ⟨x1.heap.size, 2, none⟩ (.slice a2 u.length c2)) a3 b3 v := ⟨C16.out.belV (by have := NE.out.1; omega) (fun p hp => by have := NE.out.1.1; simp only [List.mem_cons, List.not_mem_nil, or_false] at hp; rcases hp with rfl | rfl | rfl | rfl | rfl <;> (show _ ≠ _) <;> simp <;> omega) hb1, Box.put3 BY.out _ _ _, BZ.out.bel (fun e => NE.out.1.2.2 e.symm) hb1, F2.out.belC (fun h => (NE.out.2.1 h).2.1) hb1, F3.out.belC (fun h => (NE.out.2.2.1 h).2.1) hb1⟩
        generalize ((x16.setCell ⟨x1.heap.size, 0, none⟩ (.int .i64 ru)).setCell ⟨x1.heap.size, 1, none⟩ (.int .i64 d.length)).setCell ⟨x1.heap.size, 2, none⟩ (.slice a2 u.length c2) = v1 at *
        have hb2 := bel_put3U (W := v1) (x12.heap.size) (.int .i64 rv) (.int .i64 d.length) (.slice a3 v.length c3)
        have HR2 := Lib.hid (show BoxU w (((v1.setCell ⟨x12.heap.size, 0, none⟩ (.int .i64 rv)).setCell ⟨x12.heap.size, 1, none⟩ (.int .i64 d.length)).setCell ⟨x12.heap.size, 2, none⟩ (.slice a3 v.length c3)) _ ∧ Box (((v1.setCell ⟨x12.heap.size, 0, none⟩ (.int .i64 rv)).setCell ⟨x12.heap.size, 1, none⟩ (.int .i64 d.length)).setCell ⟨x12.heap.size, 2, none⟩ (.slice a3 v.length c3)) (x1.heap.size) [.int .i64 ru, .int .i64 d.length, .slice a2 u.length c2] ∧ Box (((v1.setCell ⟨x12.heap.size, 0, none⟩ (.int .i64 rv)).setCell ⟨x12.heap.size, 1, none⟩ (.int .i64 d.length)).setCell ⟨x12.heap.size, 2, none⟩ (.slice a3 v.length c3)) (x12.heap.size) [.int .i64 rv, .int .i64 d.length, .slice a3 v.length c3] ∧ FS (((v1.setCell ⟨x12.heap.size, 0, none⟩ (.int .i64 rv)).setCell ⟨x12.heap.size, 1, none⟩ (.int .i64 d.length)).setCell ⟨x12.heap.size, 2, none⟩ (.slice a3 v.length c3)) a2 b2 u ∧ FS (((v1.setCell ⟨x12.heap.size, 0, none⟩ (.int .i64 rv)).setCell ⟨x12.heap.size, 1, none⟩ (.int .i64 d.length)).setCell ⟨x12.heap.size, 2, none⟩ (.slice a3 v.length c3)) a3 b3 v from ⟨HR.1.belV (by have := NE.out.1; omega) (fun p hp => by have := NE.out.1.2.1; simp only [List.mem_cons, List.not_mem_nil, or_false] at hp; rcases hp with rfl | rfl | rfl | rfl | rfl <;> (show _ ≠ _) <;> simp <;> omega) hb2, HR.2.1.bel NE.out.1.2.2 hb2, Box.put3 HR.2.2.1 _ _ _, HR.2.2.2.1.belC (fun h => (NE.out.2.1 h).2.2) hb2, HR.2.2.2.2.belC (fun h => (NE.out.2.2.1 h).2.2) hb2⟩)
        clear hb1 hb2 HR
        exact HQ.out _ _ _ _ _ _ _ ⟨_, _, a2, a3, b2, c2, b3, c3, rfl, rfl, HR2.out.1, HR2.out.2.1, HR2.out.2.2.1, HR2.out.2.2.2.1, HR2.out.2.2.2.2, CP.out, NE.out.1, NE.out.2.1, NE.out.2.2.1, NE.out.2.2.2⟩
  · skip
    refine opW_take rfl rfl ?_
    go_simp
    obtain ⟨x17, hy⟩ : ∃ x, x = y0.alloc (.cells #[.int .i64 0, .int .i64 0, .slice none 0 0] 26) := ⟨_, rfl⟩
    rw [← hy]
    have hb : Below y0.heap.size y0 x17 := hy ▸ (Below.refl _ _).alloc (Nat.le_refl _) _
    have hsz := hb.size
    have BZ := Lib.hid (show Box x17 y0.heap.size [.int .i64 0, .int .i64 0, .slice none 0 0] from hy ▸ Box.newA y0 [.int .i64 0, .int .i64 0, .slice none 0 0] _ rfl)
    have NZ := Lib.hid (show y0.heap.size < x17.heap.size from by rw [hy]; simp)
    clear hy
    have C17 := Lib.hid (C0.out.step hb)
    clear hb hsz C0
    refine ⟨⟨(C17.out.get 1 rfl).cell, (C17.out.get 2 rfl).cell⟩, ?_⟩
    refine fm_one1 ?_ ?_
    · skip
      refine opW_take rfl rfl ?_
      go_simp
      refine (HCu.out _ C17.out.below).mono ?_
      rintro e_ x18 ⟨a2, b2, c2, rfl, hF, k3, k4, k1, k2, hb⟩
      have hsz := hb.size
      have F2 := Lib.hid hF
      have N2 := Lib.hid (show _ ∧ _ ∧ _ ∧ _ ∧ _ from ⟨k1, k2, k3, k4, hsz⟩)
      clear hF k1 k2 k3 k4
      have BZ_ := Lib.hid (BZ.out.below hb)
      clear BZ
      have BZ := BZ_
      clear BZ_
      have C18 := Lib.hid (C17.out.step hb)
      clear hb hsz C17
      refine ⟨⟨(C18.out.get 1 rfl).cell, (C18.out.get 2 rfl).cell⟩, ?_⟩
      refine fm_one1 ?_ ?_
      · skip
        refine opW_take rfl rfl ?_
        go_simp
        refine (HCv.out _ C18.out.below).mono ?_
        rintro e_ x19 ⟨a3, b3, c3, rfl, hF, k3, k4, k1, k2, hb⟩
        have hsz := hb.size
        have F3 := Lib.hid hF
        have N3 := Lib.hid (show _ ∧ _ ∧ _ ∧ _ ∧ _ from ⟨k1, k2, k3, k4, hsz⟩)
        clear hF k1 k2 k3 k4
        have F2_ := Lib.hid (F2.out.below hb)
        clear F2
        have F2 := F2_
        clear F2_
        have BZ_ := Lib.hid (BZ.out.below hb)
        clear BZ
        have BZ := BZ_
        clear BZ_
        have C19 := Lib.hid (C18.out.step hb)
        clear hb hsz C18
        refine ⟨⟨(C19.out.get 1 rfl).cell, (C19.out.get 2 rfl).cell⟩, ?_⟩
        refine fm_now ?_
        refine opW_take rfl rfl ?_
        go_simp
        obtain ⟨x20, hy⟩ : ∃ x, x = x19.alloc (.cells #[.int .i64 0, .int .i64 0, .slice none 0 0] 26) := ⟨_, rfl⟩
        rw [← hy]
        have hb : Below x19.heap.size x19 x20 := hy ▸ (Below.refl _ _).alloc (Nat.le_refl _) _
        have hsz := hb.size
        have BY := Lib.hid (show Box x20 x19.heap.size [.int .i64 0, .int .i64 0, .slice none 0 0] from hy ▸ Box.newA x19 [.int .i64 0, .int .i64 0, .slice none 0 0] _ rfl)
        have NY := Lib.hid (show x19.heap.size < x20.heap.size from by rw [hy]; simp)
        clear hy
        have F2_ := Lib.hid (F2.out.below hb)
        clear F2
        have F2 := F2_
        clear F2_
        have F3_ := Lib.hid (F3.out.below hb)
        clear F3
        have F3 := F3_
        clear F3_
        have BZ_ := Lib.hid (BZ.out.below hb)
        clear BZ
        have BZ := BZ_
        clear BZ_
        have C20 := Lib.hid (C19.out.step hb)
        clear hb hsz C19
        refine ⟨⟨(C20.out.get 1 rfl).cell, (C20.out.get 2 rfl).cell⟩, ?_⟩
        refine fm_skip rfl ?_
        refine fm_skip rfl ?_
        have e2 := N2.out; have e3 := N3.out; have eY := NY.out; have eZ := NZ.out; have e0 := (C20.out.get 4 rfl).lt; have l4 := L4.out
        have NE := Lib.hid (show (w.heap.size + 1 + 1 + 1 + 1 < x19.heap.size ∧ w.heap.size + 1 + 1 + 1 + 1 < y0.heap.size ∧ x19.heap.size ≠ y0.heap.size) ∧ (u ≠ [] → w.heap.size + 1 + 1 + 1 + 1 < b2 ∧ b2 ≠ x19.heap.size ∧ b2 ≠ y0.heap.size) ∧ (v ≠ [] → w.heap.size + 1 + 1 + 1 + 1 < b3 ∧ b3 ≠ x19.heap.size ∧ b3 ≠ y0.heap.size) ∧ (u ≠ [] → v ≠ [] → b2 ≠ b3) from ⟨by omega, fun h => by have := e2.2.2.2.1 h; omega, fun h => by have := e3.2.2.2.1 h; omega, fun h k => by have := e2.2.2.2.1 h; have := e3.2.2.2.1 k; omega⟩)
        have CP := Lib.hid (show u.length ≤ c2 ∧ c2 ≤ maxLen ∧ v.length ≤ c3 ∧ c3 ≤ maxLen from ⟨e2.1, e2.2.1, e3.1, e3.2.1⟩)
        clear e2 e3 eY eZ e0 l4 N2 N3 NY NZ
        refine fm_nil ?_
        obtain ⟨o1, o2, o3⟩ := BY.out.facts
        obtain ⟨o4, o5, o6⟩ := BZ.out.facts
        have hyz := NE.out.1.2.2
        have hzy : y0.heap.size ≠ x19.heap.size := fun e => NE.out.1.2.2 e.symm
        go_simp
        go_wp2_with fail
        refine NoPanic.normal ?_
        clear o1 o2 o3 o4 o5 o6 hyz hzy
        have hb1 := bel_put3U (W := x20) (x19.heap.size) (.int .i64 ru) (.int .i64 d.length) (.slice a2 u.length c2)
        have HR : BoxU w (((x20.setCell ⟨x19.heap.size, 0, none⟩ (.int .i64 ru)).setCell ⟨x19.heap.size, 1, none⟩ (.int .i64 d.length)).setCell ⟨x19.heap.size, 2, none⟩ (.slice a2 u.length c2)) _ ∧ Box (((x20.setCell ⟨x19.heap.size, 0, none⟩ (.int .i64 ru)).setCell ⟨x19.heap.size, 1, none⟩ (.int .i64 d.length)).setCell ⟨x19.heap.size, 2, none⟩ (.slice a2 u.length c2)) (x19.heap.size) [.int .i64 ru, .int .i64 d.length, .slice a2 u.length c2] ∧ Box (((x20.setCell ⟨x19.heap.size, 0, none⟩ (.int .i64 ru)).setCell ⟨x19.heap.size, 1, none⟩ (.int .i64 d.length)).setCell ⟨x19.heap.size, 2, none⟩ (.slice a2 u.length c2)) (y0.heap.size) [.int .i64 0, .int .i64 0, .slice none 0 0] ∧ FS (((x20.setCell ⟨x19.heap.size, 0, none⟩ (.int .i64 ru)).setCell ⟨x19.heap.size, 1, none⟩ (.int .i64 d.length)).setCell ⟨x19.heap.size, 2, none⟩ (.slice a2 u.length c2)) a2 b2 u ∧ FS (((x20.setCell ⟨x19.heap.size, 0, none⟩ (.int .i64 ru)).setCell ⟨x19.heap.size, 1, none⟩ (.int .i64 d.length)).setCell ⟨x19.heap.size, 2, none⟩ (.slice a2 u.length c2)) a3 b3 v := ⟨C20.out.belV (by have := NE.out.1; omega) (fun p hp => by have := NE.out.1.1; simp only [List.mem_cons, List.not_mem_nil, or_false] at hp; rcases hp with rfl | rfl | rfl | rfl | rfl <;> (show _ ≠ _) <;> simp <;> omega) hb1, Box.put3 BY.out _ _ _, BZ.out.bel (fun e => NE.out.1.2.2 e.symm) hb1, F2.out.belC (fun h => (NE.out.2.1 h).2.1) hb1, F3.out.belC (fun h => (NE.out.2.2.1 h).2.1) hb1⟩
        generalize ((x20.setCell ⟨x19.heap.size, 0, none⟩ (.int .i64 ru)).setCell ⟨x19.heap.size, 1, none⟩ (.int .i64 d.length)).setCell ⟨x19.heap.size, 2, none⟩ (.slice a2 u.length c2) = v1 at *
        have hb2 := bel_put3U (W := v1) (y0.heap.size) (.int .i64 rv) (.int .i64 d.length) (.slice a3 v.length c3)
        have HR2 := Lib.hid (show BoxU w (((v1.setCell ⟨y0.heap.size, 0, none⟩ (.int .i64 rv)).setCell ⟨y0.heap.size, 1, none⟩ (.int .i64 d.length)).setCell ⟨y0.heap.size, 2, none⟩ (.slice a3 v.length c3)) _ ∧ Box (((v1.setCell ⟨y0.heap.size, 0, none⟩ (.int .i64 rv)).setCell ⟨y0.heap.size, 1, none⟩ (.int .i64 d.length)).setCell ⟨y0.heap.size, 2, none⟩ (.slice a3 v.length c3)) (x19.heap.size) [.int .i64 ru, .int .i64 d.length, .slice a2 u.length c2] ∧ Box (((v1.setCell ⟨y0.heap.size, 0, none⟩ (.int .i64 rv)).setCell ⟨y0.heap.size, 1, none⟩ (.int .i64 d.length)).setCell ⟨y0.heap.size, 2, none⟩ (.slice a3 v.length c3)) (y0.heap.size) [.int .i64 rv, .int .i64 d.length, .slice a3 v.length c3] ∧ FS (((v1.setCell ⟨y0.heap.size, 0, none⟩ (.int .i64 rv)).setCell ⟨y0.heap.size, 1, none⟩ (.int .i64 d.length)).setCell ⟨y0.heap.size, 2, none⟩ (.slice a3 v.length c3)) a2 b2 u ∧ FS (((v1.setCell ⟨y0.heap.size, 0, none⟩ (.int .i64 rv)).setCell ⟨y0.heap.size, 1, none⟩ (.int .i64 d.length)).setCell ⟨y0.heap.size, 2, none⟩ (.slice a3 v.length c3)) a3 b3 v from ⟨HR.1.belV (by have := NE.out.1; omega) (fun p hp => by have := NE.out.1.2.1; simp only [List.mem_cons, List.not_mem_nil, or_false] at hp; rcases hp with rfl | rfl | rfl | rfl | rfl <;> (show _ ≠ _) <;> simp <;> omega) hb2, HR.2.1.bel NE.out.1.2.2 hb2, Box.put3 HR.2.2.1 _ _ _, HR.2.2.2.1.belC (fun h => (NE.out.2.1 h).2.2) hb2, HR.2.2.2.2.belC (fun h => (NE.out.2.2.1 h).2.2) hb2⟩)
        clear hb1 hb2 HR
        exact HQ.out _ _ _ _ _ _ _ ⟨_, _, a2, a3, b2, c2, b3, c3, rfl, rfl, HR2.out.1, HR2.out.2.1, HR2.out.2.2.1, HR2.out.2.2.2.1, HR2.out.2.2.2.2, CP.out, NE.out.1, NE.out.2.1, NE.out.2.2.1, NE.out.2.2.2⟩
      · skip
        refine opW_take rfl rfl ?_
        go_simp
        obtain ⟨x21, hy⟩ : ∃ x, x = x18.alloc (.cells #[.int .i64 0, .int .i64 0, .slice none 0 0] 26) := ⟨_, rfl⟩
        rw [← hy]
        have hb : Below x18.heap.size x18 x21 := hy ▸ (Below.refl _ _).alloc (Nat.le_refl _) _
        have hsz := hb.size
        have BY := Lib.hid (show Box x21 x18.heap.size [.int .i64 0, .int .i64 0, .slice none 0 0] from hy ▸ Box.newA x18 [.int .i64 0, .int .i64 0, .slice none 0 0] _ rfl)
        have NY := Lib.hid (show x18.heap.size < x21.heap.size from by rw [hy]; simp)
        clear hy
        have F2_ := Lib.hid (F2.out.below hb)
        clear F2
        have F2 := F2_
        clear F2_
        have BZ_ := Lib.hid (BZ.out.below hb)
        clear BZ
        have BZ := BZ_
        clear BZ_
        have C21 := Lib.hid (C18.out.step hb)
        clear hb hsz C18
        refine ⟨⟨(C21.out.get 1 rfl).cell, (C21.out.get 2 rfl).cell⟩, ?_⟩
        refine fm_one ?_
        refine opW_take rfl rfl ?_
        go_simp
        refine (HCv.out _ C21.out.below).mono ?_
        rintro e_ x22 ⟨a3, b3, c3, rfl, hF, k3, k4, k1, k2, hb⟩
        have hsz := hb.size
        have F3 := Lib.hid hF
        have N3 := Lib.hid (show _ ∧ _ ∧ _ ∧ _ ∧ _ from ⟨k1, k2, k3, k4, hsz⟩)
        clear hF k1 k2 k3 k4
        have F2_ := Lib.hid (F2.out.below hb)
        clear F2
        have F2 := F2_
        clear F2_
        have BY_ := Lib.hid (BY.out.below hb)
        clear BY
        have BY := BY_
        clear BY_
        have BZ_ := Lib.hid (BZ.out.below hb)
        clear BZ
        have BZ := BZ_
        clear BZ_
        have C22 := Lib.hid (C21.out.step hb)
        clear hb hsz C21
        refine ⟨⟨(C22.out.get 1 rfl).cell, (C22.out.get 2 rfl).cell⟩, ?_⟩
        refine fm_skip rfl ?_
        refine fm_skip rfl ?_
        have e2 := N2.out; have e3 := N3.out; have eY := NY.out; have eZ := NZ.out; have e0 := (C22.out.get 4 rfl).lt; have l4 := L4.out
        have NE := Lib.hid (show (w.heap.size + 1 + 1 + 1 + 1 < x18.heap.size ∧ w.heap.size + 1 + 1 + 1 + 1 < y0.heap.size ∧ x18.heap.size ≠ y0.heap.size) ∧ (u ≠ [] → w.heap.size + 1 + 1 + 1 + 1 < b2 ∧ b2 ≠ x18.heap.size ∧ b2 ≠ y0.heap.size) ∧ (v ≠ [] → w.heap.size + 1 + 1 + 1 + 1 < b3 ∧ b3 ≠ x18.heap.size ∧ b3 ≠ y0.heap.size) ∧ (u ≠ [] → v ≠ [] → b2 ≠ b3) from ⟨by omega, fun h => by have := e2.2.2.2.1 h; omega, fun h => by have := e3.2.2.2.1 h; omega, fun h k => by have := e2.2.2.2.1 h; have := e3.2.2.2.1 k; omega⟩)
        have CP := Lib.hid (show u.length ≤ c2 ∧ c2 ≤ maxLen ∧ v.length ≤ c3 ∧ c3 ≤ maxLen from ⟨e2.1, e2.2.1, e3.1, e3.2.1⟩)
        clear e2 e3 eY eZ e0 l4 N2 N3 NY NZ
        refine fm_nil ?_
        obtain ⟨o1, o2, o3⟩ := BY.out.facts
        obtain ⟨o4, o5, o6⟩ := BZ.out.facts
        have hyz := NE.out.1.2.2
        have hzy : y0.heap.size ≠ x18.heap.size := fun e => NE.out.1.2.2 e.symm
        go_simp
        go_wp2_with fail
        refine NoPanic.normal ?_
        clear o1 o2 o3 o4 o5 o6 hyz hzy
        have hb1 := bel_put3U (W := x22) (x18.heap.size) (.int .i64 ru) (.int .i64 d.length) (.slice a2 u.length c2)
        have HR : BoxU w (((x22.setCell ⟨x18.heap.size, 0, none⟩ (.int .i64 ru)).setCell ⟨x18.heap.size, 1, none⟩ (.int .i64 d.length)).setCell ⟨x18.heap.size, 2, none⟩ (.slice a2 u.length c2)) _ ∧ Box (((x22.setCell ⟨x18.heap.size, 0, none⟩ (.int .i64 ru)).setCell ⟨x18.heap.size, 1, none⟩ (.int .i64 d.length)).setCell ⟨x18.heap.size, 2, none⟩ (.slice a2 u.length c2)) (x18.heap.size) [.int .i64 ru, .int .i64 d.length, .slice a2 u.length c2] ∧ Box (((x22.setCell ⟨x18.heap.size, 0, none⟩ (.int .i64 ru)).setCell ⟨x18.heap.size, 1, none⟩ (.int .i64 d.length)).setCell ⟨x18.heap.size, 2, none⟩ (.slice a2 u.length c2)) (y0.heap.size) [.int .i64 0, .int .i64 0, .slice none 0 0] ∧ FS (((x22.setCell ⟨x18.heap.size, 0, none⟩ (.int .i64 ru)).setCell ⟨x18.heap.size, 1, none⟩ (.int .i64 d.length)).setCell ⟨x18.heap.size, 2, none⟩ (.slice a2 u.length c2)) a2 b2 u ∧ FS (((x22.setCell ⟨x18.heap.size, 0, none⟩ (.int .i64 ru)).setCell ⟨x18.heap.size, 1, none⟩ (.int .i64 d.length)).setCell ⟨x18.heap.size, 2, none⟩ (.slice a2 u.length c2)) a3 b3 v := ⟨C22.out.belV (by have := NE.out.1; omega) (fun p hp => by have := NE.out.1.1; simp only [List.mem_cons, List.not_mem_nil, or_false] at hp; rcases hp with rfl | rfl | rfl | rfl | rfl <;> (show _ ≠ _) <;> simp <;> omega) hb1, Box.put3 BY.out _ _ _, BZ.out.bel (fun e => NE.out.1.2.2 e.symm) hb1, F2.out.belC (fun h => (NE.out.2.1 h).2.1) hb1, F3.out.belC (fun h => (NE.out.2.2.1 h).2.1) hb1⟩
        generalize ((x22.setCell ⟨x18.heap.size, 0, none⟩ (.int .i64 ru)).setCell ⟨x18.heap.size, 1, none⟩ (.int .i64 d.length)).setCell ⟨x18.heap.size, 2, none⟩ (.slice a2 u.length c2) = v1 at *
        have hb2 := bel_put3U (W := v1) (y0.heap.size) (.int .i64 rv) (.int .i64 d.length) (.slice a3 v.length c3)
        have HR2 := Lib.hid (show BoxU w (((v1.setCell ⟨y0.heap.size, 0, none⟩ (.int .i64 rv)).setCell ⟨y0.heap.size, 1, none⟩ (.int .i64 d.length)).setCell ⟨y0.heap.size, 2, none⟩ (.slice a3 v.length c3)) _ ∧ Box (((v1.setCell ⟨y0.heap.size, 0, none⟩ (.int .i64 rv)).setCell ⟨y0.heap.size, 1, none⟩ (.int .i64 d.length)).setCell ⟨y0.heap.size, 2, none⟩ (.slice a3 v.length c3)) (x18.heap.size) [.int .i64 ru, .int .i64 d.length, .slice a2 u.length c2] ∧ Box (((v1.setCell ⟨y0.heap.size, 0, none⟩ (.int .i64 rv)).setCell ⟨y0.heap.size, 1, none⟩ (.int .i64 d.length)).setCell ⟨y0.heap.size, 2, none⟩ (.slice a3 v.length c3)) (y0.heap.size) [.int .i64 rv, .int .i64 d.length, .slice a3 v.length c3] ∧ FS (((v1.setCell ⟨y0.heap.size, 0, none⟩ (.int .i64 rv)).setCell ⟨y0.heap.size, 1, none⟩ (.int .i64 d.length)).setCell ⟨y0.heap.size, 2, none⟩ (.slice a3 v.length c3)) a2 b2 u ∧ FS (((v1.setCell ⟨y0.heap.size, 0, none⟩ (.int .i64 rv)).setCell ⟨y0.heap.size, 1, none⟩ (.int .i64 d.length)).setCell ⟨y0.heap.size, 2, none⟩ (.slice a3 v.length c3)) a3 b3 v from ⟨HR.1.belV (by have := NE.out.1; omega) (fun p hp => by have := NE.out.1.2.1; simp only [List.mem_cons, List.not_mem_nil, or_false] at hp; rcases hp with rfl | rfl | rfl | rfl | rfl <;> (show _ ≠ _) <;> simp <;> omega) hb2, HR.2.1.bel NE.out.1.2.2 hb2, Box.put3 HR.2.2.1 _ _ _, HR.2.2.2.1.belC (fun h => (NE.out.2.1 h).2.2) hb2, HR.2.2.2.2.belC (fun h => (NE.out.2.2.1 h).2.2) hb2⟩)
        clear hb1 hb2 HR
        exact HQ.out _ _ _ _ _ _ _ ⟨_, _, a2, a3, b2, c2, b3, c3, rfl, rfl, HR2.out.1, HR2.out.2.1, HR2.out.2.2.1, HR2.out.2.2.2.1, HR2.out.2.2.2.2, CP.out, NE.out.1, NE.out.2.1, NE.out.2.2.1, NE.out.2.2.2⟩
    · skip
      refine opW_take rfl rfl ?_
      go_simp
      obtain ⟨x23, hy⟩ : ∃ x, x = x17.alloc (.cells #[.int .i64 0, .int .i64 0, .slice none 0 0] 26) := ⟨_, rfl⟩
      rw [← hy]
      have hb : Below x17.heap.size x17 x23 := hy ▸ (Below.refl _ _).alloc (Nat.le_refl _) _
      have hsz := hb.size
      have BY := Lib.hid (show Box x23 x17.heap.size [.int .i64 0, .int .i64 0, .slice none 0 0] from hy ▸ Box.newA x17 [.int .i64 0, .int .i64 0, .slice none 0 0] _ rfl)
      have NY := Lib.hid (show x17.heap.size < x23.heap.size from by rw [hy]; simp)
      clear hy
      have BZ_ := Lib.hid (BZ.out.below hb)
      clear BZ
      have BZ := BZ_
      clear BZ_
      have C23 := Lib.hid (C17.out.step hb)
      clear hb hsz C17
      refine ⟨⟨(C23.out.get 1 rfl).cell, (C23.out.get 2 rfl).cell⟩, ?_⟩
      refine fm_one ?_
      refine opW_take rfl rfl ?_
      go_simp
      refine (HCu.out _ C23.out.below).mono ?_
      rintro e_ x24 ⟨a2, b2, c2, rfl, hF, k3, k4, k1, k2, hb⟩
      have hsz := hb.size
      have F2 := Lib.hid hF
      have N2 := Lib.hid (show _ ∧ _ ∧ _ ∧ _ ∧ _ from ⟨k1, k2, k3, k4, hsz⟩)
      clear hF k1 k2 k3 k4
      have BY_ := Lib.hid (BY.out.below hb)
      clear BY
      have BY := BY_
      clear BY_
      have BZ_ := Lib.hid (BZ.out.below hb)
      clear BZ
      have BZ := BZ_
      clear BZ_
      have C24 := Lib.hid (C23.out.step hb)
      clear hb hsz C23
      refine ⟨⟨(C24.out.get 1 rfl).cell, (C24.out.get 2 rfl).cell⟩, ?_⟩
      refine fm_one ?_
      refine opW_take rfl rfl ?_
      go_simp
      refine (HCv.out _ C24.out.below).mono ?_
      rintro e_ x25 ⟨a3, b3, c3, rfl, hF, k3, k4, k1, k2, hb⟩
      have hsz := hb.size
      have F3 := Lib.hid hF
      have N3 := Lib.hid (show _ ∧ _ ∧ _ ∧ _ ∧ _ from ⟨k1, k2, k3, k4, hsz⟩)
      clear hF k1 k2 k3 k4
      have F2_ := Lib.hid (F2.out.below hb)
      clear F2
      have F2 := F2_
      clear F2_
      have BY_ := Lib.hid (BY.out.below hb)
      clear BY
      have BY := BY_
      clear BY_
      have BZ_ := Lib.hid (BZ.out.below hb)
      clear BZ
      have BZ := BZ_
      clear BZ_
      have C25 := Lib.hid (C24.out.step hb)
      clear hb hsz C24
      refine ⟨⟨(C25.out.get 1 rfl).cell, (C25.out.get 2 rfl).cell⟩, ?_⟩
      refine fm_skip rfl ?_
      refine fm_skip rfl ?_
      have e2 := N2.out; have e3 := N3.out; have eY := NY.out; have eZ := NZ.out; have e0 := (C25.out.get 4 rfl).lt; have l4 := L4.out
      have NE := Lib.hid (show (w.heap.size + 1 + 1 + 1 + 1 < x17.heap.size ∧ w.heap.size + 1 + 1 + 1 + 1 < y0.heap.size ∧ x17.heap.size ≠ y0.heap.size) ∧ (u ≠ [] → w.heap.size + 1 + 1 + 1 + 1 < b2 ∧ b2 ≠ x17.heap.size ∧ b2 ≠ y0.heap.size) ∧ (v ≠ [] → w.heap.size + 1 + 1 + 1 + 1 < b3 ∧ b3 ≠ x17.heap.size ∧ b3 ≠ y0.heap.size) ∧ (u ≠ [] → v ≠ [] → b2 ≠ b3) from ⟨by omega, fun h => by have := e2.2.2.2.1 h; omega, fun h => by have := e3.2.2.2.1 h; omega, fun h k => by have := e2.2.2.2.1 h; have := e3.2.2.2.1 k; omega⟩)
      have CP := Lib.hid (show u.length ≤ c2 ∧ c2 ≤ maxLen ∧ v.length ≤ c3 ∧ c3 ≤ maxLen from ⟨e2.1, e2.2.1, e3.1, e3.2.1⟩)
      clear e2 e3 eY eZ e0 l4 N2 N3 NY NZ
      refine fm_nil ?_
      obtain ⟨o1, o2, o3⟩ := BY.out.facts
      obtain ⟨o4, o5, o6⟩ := BZ.out.facts
      have hyz := NE.out.1.2.2
      have hzy : y0.heap.size ≠ x17.heap.size := fun e => NE.out.1.2.2 e.symm
      go_simp
      go_wp2_with fail
      refine NoPanic.normal ?_
      clear o1 o2 o3 o4 o5 o6 hyz hzy
      have hb1 := bel_put3U (W := x25) (x17.heap.size) (.int .i64 ru) (.int .i64 d.length) (.slice a2 u.length c2)
      have HR : BoxU w (((x25.setCell ⟨x17.heap.size, 0, none⟩ (.int .i64 ru)).setCell ⟨x17.heap.size, 1, none⟩ (.int .i64 d.length)).setCell ⟨x17.heap.size, 2, none⟩ (.slice a2 u.length c2)) _ ∧ Box (((x25.setCell ⟨x17.heap.size, 0, none⟩ (.int .i64 ru)).setCell ⟨x17.heap.size, 1, none⟩ (.int .i64 d.length)).setCell ⟨x17.heap.size, 2, none⟩ (.slice a2 u.length c2)) (x17.heap.size) [.int .i64 ru, .int .i64 d.length, .slice a2 u.length c2] ∧ Box (((x25.setCell ⟨x17.heap.size, 0, none⟩ (.int .i64 ru)).setCell ⟨x17.heap.size, 1, none⟩ (.int .i64 d.length)).setCell ⟨x17.heap.size, 2, none⟩ (.slice a2 u.length c2)) (y0.heap.size) [.int .i64 0, .int .i64 0, .slice none 0 0] ∧ FS (((x25.setCell ⟨x17.heap.size, 0, none⟩ (.int .i64 ru)).setCell ⟨x17.heap.size, 1, none⟩ (.int .i64 d.length)).setCell ⟨x17.heap.size, 2, none⟩ (.slice a2 u.length c2)) a2 b2 u ∧ FS (((x25.setCell ⟨x17.heap.size, 0, none⟩ (.int .i64 ru)).setCell ⟨x17.heap.size, 1, none⟩ (.int .i64 d.length)).setCell ⟨x17.heap.size, 2, none⟩ (.slice a2 u.length c2)) a3 b3 v := ⟨C25.out.belV (by have := NE.out.1; omega) (fun p hp => by have := NE.out.1.1; simp only [List.mem_cons, List.not_mem_nil, or_false] at hp; rcases hp with rfl | rfl | rfl | rfl | rfl <;> (show _ ≠ _) <;> simp <;> omega) hb1, Box.put3 BY.out _ _ _, BZ.out.bel (fun e => NE.out.1.2.2 e.symm) hb1, F2.out.belC (fun h => (NE.out.2.1 h).2.1) hb1, F3.out.belC (fun h => (NE.out.2.2.1 h).2.1) hb1⟩
      generalize ((x25.setCell ⟨x17.heap.size, 0, none⟩ (.int .i64 ru)).setCell ⟨x17.heap.size, 1, none⟩ (.int .i64 d.length)).setCell ⟨x17.heap.size, 2, none⟩ (.slice a2 u.length c2) = v1 at *
      have hb2 := bel_put3U (W := v1) (y0.heap.size) (.int .i64 rv) (.int .i64 d.length) (.slice a3 v.length c3)
      have HR2 := Lib.hid (show BoxU w (((v1.setCell ⟨y0.heap.size, 0, none⟩ (.int .i64 rv)).setCell ⟨y0.heap.size, 1, none⟩ (.int .i64 d.length)).setCell ⟨y0.heap.size, 2, none⟩ (.slice a3 v.length c3)) _ ∧ Box (((v1.setCell ⟨y0.heap.size, 0, none⟩ (.int .i64 rv)).setCell ⟨y0.heap.size, 1, none⟩ (.int .i64 d.length)).setCell ⟨y0.heap.size, 2, none⟩ (.slice a3 v.length c3)) (x17.heap.size) [.int .i64 ru, .int .i64 d.length, .slice a2 u.length c2] ∧ Box (((v1.setCell ⟨y0.heap.size, 0, none⟩ (.int .i64 rv)).setCell ⟨y0.heap.size, 1, none⟩ (.int .i64 d.length)).setCell ⟨y0.heap.size, 2, none⟩ (.slice a3 v.length c3)) (y0.heap.size) [.int .i64 rv, .int .i64 d.length, .slice a3 v.length c3] ∧ FS (((v1.setCell ⟨y0.heap.size, 0, none⟩ (.int .i64 rv)).setCell ⟨y0.heap.size, 1, none⟩ (.int .i64 d.length)).setCell ⟨y0.heap.size, 2, none⟩ (.slice a3 v.length c3)) a2 b2 u ∧ FS (((v1.setCell ⟨y0.heap.size, 0, none⟩ (.int .i64 rv)).setCell ⟨y0.heap.size, 1, none⟩ (.int .i64 d.length)).setCell ⟨y0.heap.size, 2, none⟩ (.slice a3 v.length c3)) a3 b3 v from ⟨HR.1.belV (by have := NE.out.1; omega) (fun p hp => by have := NE.out.1.2.1; simp only [List.mem_cons, List.not_mem_nil, or_false] at hp; rcases hp with rfl | rfl | rfl | rfl | rfl <;> (show _ ≠ _) <;> simp <;> omega) hb2, HR.2.1.bel NE.out.1.2.2 hb2, Box.put3 HR.2.2.1 _ _ _, HR.2.2.2.1.belC (fun h => (NE.out.2.1 h).2.2) hb2, HR.2.2.2.2.belC (fun h => (NE.out.2.2.1 h).2.2) hb2⟩)
      clear hb1 hb2 HR
      exact HQ.out _ _ _ _ _ _ _ ⟨_, _, a2, a3, b2, c2, b3, c3, rfl, rfl, HR2.out.1, HR2.out.2.1, HR2.out.2.2.1, HR2.out.2.2.2.1, HR2.out.2.2.2.2, CP.out, NE.out.1, NE.out.2.1, NE.out.2.2.1, NE.out.2.2.2⟩
  · skip
    refine opW_take rfl rfl ?_
    go_simp
    obtain ⟨x26, hy⟩ : ∃ x, x = y0.alloc (.cells #[.int .i64 0, .int .i64 0, .slice none 0 0] 26) := ⟨_, rfl⟩
    rw [← hy]
    have hb : Below y0.heap.size y0 x26 := hy ▸ (Below.refl _ _).alloc (Nat.le_refl _) _
    have hsz := hb.size
    have BY := Lib.hid (show Box x26 y0.heap.size [.int .i64 0, .int .i64 0, .slice none 0 0] from hy ▸ Box.newA y0 [.int .i64 0, .int .i64 0, .slice none 0 0] _ rfl)
    have NY := Lib.hid (show y0.heap.size < x26.heap.size from by rw [hy]; simp)
    clear hy
    have C26 := Lib.hid (C0.out.step hb)
    clear hb hsz C0
    refine ⟨⟨(C26.out.get 1 rfl).cell, (C26.out.get 2 rfl).cell⟩, ?_⟩
    refine fm_one1 ?_ ?_
    · skip
      refine opW_take rfl rfl ?_
      go_simp
      refine (HCu.out _ C26.out.below).mono ?_
      rintro e_ x27 ⟨a2, b2, c2, rfl, hF, k3, k4, k1, k2, hb⟩
      have hsz := hb.size
      have F2 := Lib.hid hF
      have N2 := Lib.hid (show _ ∧ _ ∧ _ ∧ _ ∧ _ from ⟨k1, k2, k3, k4, hsz⟩)
      clear hF k1 k2 k3 k4
      have BY_ := Lib.hid (BY.out.below hb)
      clear BY
      have BY := BY_
      clear BY_
      have C27 := Lib.hid (C26.out.step hb)
      clear hb hsz C26
      refine ⟨⟨(C27.out.get 1 rfl).cell, (C27.out.get 2 rfl).cell⟩, ?_⟩
      refine fm_one1 ?_ ?_
      · skip
        refine opW_take rfl rfl ?_
        go_simp
        refine (HCv.out _ C27.out.below).mono ?_
        rintro e_ x28 ⟨a3, b3, c3, rfl, hF, k3, k4, k1, k2, hb⟩
        have hsz := hb.size
        have F3 := Lib.hid hF
        have N3 := Lib.hid (show _ ∧ _ ∧ _ ∧ _ ∧ _ from ⟨k1, k2, k3, k4, hsz⟩)
        clear hF k1 k2 k3 k4
        have F2_ := Lib.hid (F2.out.below hb)
        clear F2
        have F2 := F2_
        clear F2_
        have BY_ := Lib.hid (BY.out.below hb)
        clear BY
        have BY := BY_
        clear BY_
        have C28 := Lib.hid (C27.out.step hb)
        clear hb hsz C27
        refine ⟨⟨(C28.out.get 1 rfl).cell, (C28.out.get 2 rfl).cell⟩, ?_⟩
        refine fm_skip rfl ?_
        refine fm_now ?_
        refine opW_take rfl rfl ?_
        go_simp
        obtain ⟨x29, hy⟩ : ∃ x, x = x28.alloc (.cells #[.int .i64 0, .int .i64 0, .slice none 0 0] 26) := ⟨_, rfl⟩
        rw [← hy]
        have hb : Below x28.heap.size x28 x29 := hy ▸ (Below.refl _ _).alloc (Nat.le_refl _) _
        have hsz := hb.size
        have BZ := Lib.hid (show Box x29 x28.heap.size [.int .i64 0, .int .i64 0, .slice none 0 0] from hy ▸ Box.newA x28 [.int .i64 0, .int .i64 0, .slice none 0 0] _ rfl)
        have NZ := Lib.hid (show x28.heap.size < x29.heap.size from by rw [hy]; simp)
        clear hy
        have F2_ := Lib.hid (F2.out.below hb)
        clear F2
        have F2 := F2_
        clear F2_
        have F3_ := Lib.hid (F3.out.below hb)
        clear F3
        have F3 := F3_
        clear F3_
        have BY_ := Lib.hid (BY.out.below hb)
        clear BY
        have BY := BY_
        clear BY_
        have C29 := Lib.hid (C28.out.step hb)
        clear hb hsz C28
        refine ⟨⟨(C29.out.get 1 rfl).cell, (C29.out.get 2 rfl).cell⟩, ?_⟩
        refine fm_skip rfl ?_
        have e2 := N2.out; have e3 := N3.out; have eY := NY.out; have eZ := NZ.out; have e0 := (C29.out.get 4 rfl).lt; have l4 := L4.out
        have NE := Lib.hid (show (w.heap.size + 1 + 1 + 1 + 1 < y0.heap.size ∧ w.heap.size + 1 + 1 + 1 + 1 < x28.heap.size ∧ y0.heap.size ≠ x28.heap.size) ∧ (u ≠ [] → w.heap.size + 1 + 1 + 1 + 1 < b2 ∧ b2 ≠ y0.heap.size ∧ b2 ≠ x28.heap.size) ∧ (v ≠ [] → w.heap.size + 1 + 1 + 1 + 1 < b3 ∧ b3 ≠ y0.heap.size ∧ b3 ≠ x28.heap.size) ∧ (u ≠ [] → v ≠ [] → b2 ≠ b3) from ⟨by omega, fun h => by have := e2.2.2.2.1 h; omega, fun h => by have := e3.2.2.2.1 h; omega, fun h k => by have := e2.2.2.2.1 h; have := e3.2.2.2.1 k; omega⟩)
        have CP := Lib.hid (show u.length ≤ c2 ∧ c2 ≤ maxLen ∧ v.length ≤ c3 ∧ c3 ≤ maxLen from ⟨e2.1, e2.2.1, e3.1, e3.2.1⟩)
        clear e2 e3 eY eZ e0 l4 N2 N3 NY NZ
        refine fm_nil ?_
        obtain ⟨o1, o2, o3⟩ := BY.out.facts
        obtain ⟨o4, o5, o6⟩ := BZ.out.facts
        have hyz := NE.out.1.2.2
        have hzy : x28.heap.size ≠ y0.heap.size := fun e => NE.out.1.2.2 e.symm
        go_simp
        go_wp2_with fail
        refine NoPanic.normal ?_
        clear o1 o2 o3 o4 o5 o6 hyz hzy
        have hb1 := bel_put3U (W := x29) (y0.heap.size) (.int .i64 ru) (.int .i64 d.length) (.slice a2 u.length c2)
        have HR : BoxU w (((x29.setCell ⟨y0.heap.size, 0, none⟩ (.int .i64 ru)).setCell ⟨y0.heap.size, 1, none⟩ (.int .i64 d.length)).setCell ⟨y0.heap.size, 2, none⟩ (.slice a2 u.length c2)) _ ∧ Box (((x29.setCell ⟨y0.heap.size, 0, none⟩ (.int .i64 ru)).setCell ⟨y0.heap.size, 1, none⟩ (.int .i64 d.length)).setCell ⟨y0.heap.size, 2, none⟩ (.slice a2 u.length c2)) (y0.heap.size) [.int .i64 ru, .int .i64 d.length, .slice a2 u.length c2] ∧ Box (((x29.setCell ⟨y0.heap.size, 0, none⟩ (.int .i64 ru)).setCell ⟨y0.heap.size, 1, none⟩ (.int .i64 d.length)).setCell ⟨y0.heap.size, 2, none⟩ (.slice a2 u.length c2)) (x28.heap.size) [.int .i64 0, .int .i64 0, .slice none 0 0] ∧ FS (((x29.setCell ⟨y0.heap.size, 0, none⟩ (.int .i64 ru)).setCell ⟨y0.heap.size, 1, none⟩ (.int .i64 d.length)).setCell ⟨y0.heap.size, 2, none⟩ (.slice a2 u.length c2)) a2 b2 u ∧ FS (((x29.setCell ⟨y0.heap.size, 0, none⟩ (.int .i64 ru)).setCell ⟨y0.heap.size, 1, none⟩ (.int .i64 d.length)).setCell ⟨y0.heap.size, 2, none⟩ (.slice a2 u.length c2)) a3 b3 v := ⟨C29.out.belV (by have := NE.out.1; omega) (fun p hp => by have := NE.out.1.1; simp only [List.mem_cons, List.not_mem_nil, or_false] at hp; rcases hp with rfl | rfl | rfl | rfl | rfl <;> (show _ ≠ _) <;> simp <;> omega) hb1, Box.put3 BY.out _ _ _, BZ.out.bel (fun e => NE.out.1.2.2 e.symm) hb1, F2.out.belC (fun h => (NE.out.2.1 h).2.1) hb1, F3.out.belC (fun h => (NE.out.2.2.1 h).2.1) hb1⟩
        generalize ((x29.setCell ⟨y0.heap.size, 0, none⟩ (.int .i64 ru)).setCell ⟨y0.heap.size, 1, none⟩ (.int .i64 d.length)).setCell ⟨y0.heap.size, 2, none⟩ (.slice a2 u.length c2) = v1 at *
        have hb2 := bel_put3U (W := v1) (x28.heap.size) (.int .i64 rv) (.int .i64 d.length) (.slice a3 v.length c3)
        have HR2 := Lib.hid (show BoxU w (((v1.setCell ⟨x28.heap.size, 0, none⟩ (.int .i64 rv)).setCell ⟨x28.heap.size, 1, none⟩ (.int .i64 d.length)).setCell ⟨x28.heap.size, 2, none⟩ (.slice a3 v.length c3)) _ ∧ Box (((v1.setCell ⟨x28.heap.size, 0, none⟩ (.int .i64 rv)).setCell ⟨x28.heap.size, 1, none⟩ (.int .i64 d.length)).setCell ⟨x28.heap.size, 2, none⟩ (.slice a3 v.length c3)) (y0.heap.size) [.int .i64 ru, .int .i64 d.length, .slice a2 u.length c2] ∧ Box (((v1.setCell ⟨x28.heap.size, 0, none⟩ (.int .i64 rv)).setCell ⟨x28.heap.size, 1, none⟩ (.int .i64 d.length)).setCell ⟨x28.heap.size, 2, none⟩ (.slice a3 v.length c3)) (x28.heap.size) [.int .i64 rv, .int .i64 d.length, .slice a3 v.length c3] ∧ FS (((v1.setCell ⟨x28.heap.size, 0, none⟩ (.int .i64 rv)).setCell ⟨x28.heap.size, 1, none⟩ (.int .i64 d.length)).setCell ⟨x28.heap.size, 2, none⟩ (.slice a3 v.length c3)) a2 b2 u ∧ FS (((v1.setCell ⟨x28.heap.size, 0, none⟩ (.int .i64 rv)).setCell ⟨x28.heap.size, 1, none⟩ (.int .i64 d.length)).setCell ⟨x28.heap.size, 2, none⟩ (.slice a3 v.length c3)) a3 b3 v from ⟨HR.1.belV (by have := NE.out.1; omega) (fun p hp => by have := NE.out.1.2.1; simp only [List.mem_cons, List.not_mem_nil, or_false] at hp; rcases hp with rfl | rfl | rfl | rfl | rfl <;> (show _ ≠ _) <;> simp <;> omega) hb2, HR.2.1.bel NE.out.1.2.2 hb2, Box.put3 HR.2.2.1 _ _ _, HR.2.2.2.1.belC (fun h => (NE.out.2.1 h).2.2) hb2, HR.2.2.2.2.belC (fun h => (NE.out.2.2.1 h).2.2) hb2⟩)
        clear hb1 hb2 HR
        exact HQ.out _ _ _ _ _ _ _ ⟨_, _, a2, a3, b2, c2, b3, c3, rfl, rfl, HR2.out.1, HR2.out.2.1, HR2.out.2.2.1, HR2.out.2.2.2.1, HR2.out.2.2.2.2, CP.out, NE.out.1, NE.out.2.1, NE.out.2.2.1, NE.out.2.2.2⟩
      · skip
        refine opW_take rfl rfl ?_
        go_simp
        obtain ⟨x30, hy⟩ : ∃ x, x = x27.alloc (.cells #[.int .i64 0, .int .i64 0, .slice none 0 0] 26) := ⟨_, rfl⟩
        rw [← hy]
        have hb : Below x27.heap.size x27 x30 := hy ▸ (Below.refl _ _).alloc (Nat.le_refl _) _
        have hsz := hb.size
        have BZ := Lib.hid (show Box x30 x27.heap.size [.int .i64 0, .int .i64 0, .slice none 0 0] from hy ▸ Box.newA x27 [.int .i64 0, .int .i64 0, .slice none 0 0] _ rfl)
        have NZ := Lib.hid (show x27.heap.size < x30.heap.size from by rw [hy]; simp)
        clear hy
        have F2_ := Lib.hid (F2.out.below hb)
        clear F2
        have F2 := F2_
        clear F2_
        have BY_ := Lib.hid (BY.out.below hb)
        clear BY
        have BY := BY_
        clear BY_
        have C30 := Lib.hid (C27.out.step hb)
        clear hb hsz C27
        refine ⟨⟨(C30.out.get 1 rfl).cell, (C30.out.get 2 rfl).cell⟩, ?_⟩
        refine fm_one ?_
        refine opW_take rfl rfl ?_
        go_simp
        refine (HCv.out _ C30.out.below).mono ?_
        rintro e_ x31 ⟨a3, b3, c3, rfl, hF, k3, k4, k1, k2, hb⟩
        have hsz := hb.size
        have F3 := Lib.hid hF
        have N3 := Lib.hid (show _ ∧ _ ∧ _ ∧ _ ∧ _ from ⟨k1, k2, k3, k4, hsz⟩)
        clear hF k1 k2 k3 k4
        have F2_ := Lib.hid (F2.out.below hb)
        clear F2
        have F2 := F2_
        clear F2_
        have BY_ := Lib.hid (BY.out.below hb)
        clear BY
        have BY := BY_
        clear BY_
        have BZ_ := Lib.hid (BZ.out.below hb)
        clear BZ
        have BZ := BZ_
        clear BZ_
        have C31 := Lib.hid (C30.out.step hb)
        clear hb hsz C30
        refine ⟨⟨(C31.out.get 1 rfl).cell, (C31.out.get 2 rfl).cell⟩, ?_⟩
        refine fm_skip rfl ?_
        refine fm_skip rfl ?_
        have e2 := N2.out; have e3 := N3.out; have eY := NY.out; have eZ := NZ.out; have e0 := (C31.out.get 4 rfl).lt; have l4 := L4.out
        have NE := Lib.hid (show (w.heap.size + 1 + 1 + 1 + 1 < y0.heap.size ∧ w.heap.size + 1 + 1 + 1 + 1 < x27.heap.size ∧ y0.heap.size ≠ x27.heap.size) ∧ (u ≠ [] → w.heap.size + 1 + 1 + 1 + 1 < b2 ∧ b2 ≠ y0.heap.size ∧ b2 ≠ x27.heap.size) ∧ (v ≠ [] → w.heap.size + 1 + 1 + 1 + 1 < b3 ∧ b3 ≠ y0.heap.size ∧ b3 ≠ x27.heap.size) ∧ (u ≠ [] → v ≠ [] → b2 ≠ b3) from ⟨by omega, fun h => by have := e2.2.2.2.1 h; omega, fun h => by have := e3.2.2.2.1 h; omega, fun h k => by have := e2.2.2.2.1 h; have := e3.2.2.2.1 k; omega⟩)
        have CP := Lib.hid (show u.length ≤ c2 ∧ c2 ≤ maxLen ∧ v.length ≤ c3 ∧ c3 ≤ maxLen from ⟨e2.1, e2.2.1, e3.1, e3.2.1⟩)
        clear e2 e3 eY eZ e0 l4 N2 N3 NY NZ
        refine fm_nil ?_
        obtain ⟨o1, o2, o3⟩ := BY.out.facts
        obtain ⟨o4, o5, o6⟩ := BZ.out.facts
        have hyz := NE.out.1.2.2
        have hzy : x27.heap.size ≠ y0.heap.size := fun e => NE.out.1.2.2 e.symm
        go_simp
        go_wp2_with fail
        refine NoPanic.normal ?_
        clear o1 o2 o3 o4 o5 o6 hyz hzy
        have hb1 := bel_put3U (W := x31) (y0.heap.size) (.int .i64 ru) (.int .i64 d.length) (.slice a2 u.length c2)
        have HR : BoxU w (((x31.setCell ⟨y0.heap.size, 0, none⟩ (.int .i64 ru)).setCell ⟨y0.heap.size, 1, none⟩ (.int .i64 d.length)).setCell ⟨y0.heap.size, 2, none⟩ (.slice a2 u.length c2)) _ ∧ Box (((x31.setCell ⟨y0.heap.size, 0, none⟩ (.int .i64 ru)).setCell ⟨y0.heap.size, 1, none⟩ (.int .i64 d.length)).setCell ⟨y0.heap.size, 2, none⟩ (.slice a2 u.length c2)) (y0.heap.size) [.int .i64 ru, .int .i64 d.length, .slice a2 u.length c2] ∧ Box (((x31.setCell ⟨y0.heap.size, 0, none⟩ (.int .i64 ru)).setCell ⟨y0.heap.size, 1, none⟩ (.int .i64 d.length)).setCell ⟨y0.heap.size, 2, none⟩ (.slice a2 u.length c2)) (x27.heap.size) [.int .i64 0, .int .i64 0, .slice none 0 0] ∧ FS (((x31.setCell ⟨y0.heap.size, 0, none⟩ (.int .i64 ru)).setCell ⟨y0.heap.size, 1, none⟩ (.int .i64 d.length)).setCell ⟨y0.heap.size, 2, none⟩ (.slice a2 u.length c2)) a2 b2 u ∧ FS (((x31.setCell ⟨y0.heap.size, 0, none⟩ (.int .i64 ru)).setCell ⟨y0.heap.size, 1, none⟩ (.int .i64 d.length)).setCell ⟨y0.heap.size, 2, none⟩ (.slice a2 u.length c2)) a3 b3 v := ⟨C31.out.belV (by have := NE.out.1; omega) (fun p hp => by have := NE.out.1.1; simp only [List.mem_cons, List.not_mem_nil, or_false] at hp; rcases hp with rfl | rfl | rfl | rfl | rfl <;> (show _ ≠ _) <;> simp <;> omega) hb1, Box.put3 BY.out _ _ _, BZ.out.bel (fun e => NE.out.1.2.2 e.symm) hb1, F2.out.belC (fun h => (NE.out.2.1 h).2.1) hb1, F3.out.belC (fun h => (NE.out.2.2.1 h).2.1) hb1⟩
        generalize ((x31.setCell ⟨y0.heap.size, 0, none⟩ (.int .i64 ru)).setCell ⟨y0.heap.size, 1, none⟩ (.int .i64 d.length)).setCell ⟨y0.heap.size, 2, none⟩ (.slice a2 u.length c2) = v1 at *
        have hb2 := bel_put3U (W := v1) (x27.heap.size) (.int .i64 rv) (.int .i64 d.length) (.slice a3 v.length c3)
        have HR2 := Lib.hid (show BoxU w (((v1.setCell ⟨x27.heap.size, 0, none⟩ (.int .i64 rv)).setCell ⟨x27.heap.size, 1, none⟩ (.int .i64 d.length)).setCell ⟨x27.heap.size, 2, none⟩ (.slice a3 v.length c3)) _ ∧ Box (((v1.setCell ⟨x27.heap.size, 0, none⟩ (.int .i64 rv)).setCell ⟨x27.heap.size, 1, none⟩ (.int .i64 d.length)).setCell ⟨x27.heap.size, 2, none⟩ (.slice a3 v.length c3)) (y0.heap.size) [.int .i64 ru, .int .i64 d.length, .slice a2 u.length c2] ∧ Box (((v1.setCell ⟨x27.heap.size, 0, none⟩ (.int .i64 rv)).setCell ⟨x27.heap.size, 1, none⟩ (.int .i64 d.length)).setCell ⟨x27.heap.size, 2, none⟩ (.slice a3 v.length c3)) (x27.heap.size) [.int .i64 rv, .int .i64 d.length, .slice a3 v.length c3] ∧ FS (((v1.setCell ⟨x27.heap.size, 0, none⟩ (.int .i64 rv)).setCell ⟨x27.heap.size, 1, none⟩ (.int .i64 d.length)).setCell ⟨x27.heap.size, 2, none⟩ (.slice a3 v.length c3)) a2 b2 u ∧ FS (((v1.setCell ⟨x27.heap.size, 0, none⟩ (.int .i64 rv)).setCell ⟨x27.heap.size, 1, none⟩ (.int .i64 d.length)).setCell ⟨x27.heap.size, 2, none⟩ (.slice a3 v.length c3)) a3 b3 v from ⟨HR.1.belV (by have := NE.out.1; omega) (fun p hp => by have := NE.out.1.2.1; simp only [List.mem_cons, List.not_mem_nil, or_false] at hp; rcases hp with rfl | rfl | rfl | rfl | rfl <;> (show _ ≠ _) <;> simp <;> omega) hb2, HR.2.1.bel NE.out.1.2.2 hb2, Box.put3 HR.2.2.1 _ _ _, HR.2.2.2.1.belC (fun h => (NE.out.2.1 h).2.2) hb2, HR.2.2.2.2.belC (fun h => (NE.out.2.2.1 h).2.2) hb2⟩)
        clear hb1 hb2 HR
        exact HQ.out _ _ _ _ _ _ _ ⟨_, _, a2, a3, b2, c2, b3, c3, rfl, rfl, HR2.out.1, HR2.out.2.1, HR2.out.2.2.1, HR2.out.2.2.2.1, HR2.out.2.2.2.2, CP.out, NE.out.1, NE.out.2.1, NE.out.2.2.1, NE.out.2.2.2⟩
    · skip
      refine opW_take rfl rfl ?_
      go_simp
      obtain ⟨x32, hy⟩ : ∃ x, x = x26.alloc (.cells #[.int .i64 0, .int .i64 0, .slice none 0 0] 26) := ⟨_, rfl⟩
      rw [← hy]
      have hb : Below x26.heap.size x26 x32 := hy ▸ (Below.refl _ _).alloc (Nat.le_refl _) _
      have hsz := hb.size
      have BZ := Lib.hid (show Box x32 x26.heap.size [.int .i64 0, .int .i64 0, .slice none 0 0] from hy ▸ Box.newA x26 [.int .i64 0, .int .i64 0, .slice none 0 0] _ rfl)
      have NZ := Lib.hid (show x26.heap.size < x32.heap.size from by rw [hy]; simp)
      clear hy
      have BY_ := Lib.hid (BY.out.below hb)
      clear BY
      have BY := BY_
      clear BY_
      have C32 := Lib.hid (C26.out.step hb)
      clear hb hsz C26
      refine ⟨⟨(C32.out.get 1 rfl).cell, (C32.out.get 2 rfl).cell⟩, ?_⟩
      refine fm_one ?_
      refine opW_take rfl rfl ?_
      go_simp
      refine (HCu.out _ C32.out.below).mono ?_
      rintro e_ x33 ⟨a2, b2, c2, rfl, hF, k3, k4, k1, k2, hb⟩
      have hsz := hb.size
      have F2 := Lib.hid hF
      have N2 := Lib.hid (show _ ∧ _ ∧ _ ∧ _ ∧ _ from ⟨k1, k2, k3, k4, hsz⟩)
      clear hF k1 k2 k3 k4
      have BY_ := Lib.hid (BY.out.below hb)
      clear BY
      have BY := BY_
      clear BY_
      have BZ_ := Lib.hid (BZ.out.below hb)
      clear BZ
      have BZ := BZ_
      clear BZ_
      have C33 := Lib.hid (C32.out.step hb)
      clear hb hsz C32
      refine ⟨⟨(C33.out.get 1 rfl).cell, (C33.out.get 2 rfl).cell⟩, ?_⟩
      refine fm_one ?_
      refine opW_take rfl rfl ?_
      go_simp
      refine (HCv.out _ C33.out.below).mono ?_
      rintro e_ x34 ⟨a3, b3, c3, rfl, hF, k3, k4, k1, k2, hb⟩
      have hsz := hb.size
      have F3 := Lib.hid hF
      have N3 := Lib.hid (show _ ∧ _ ∧ _ ∧ _ ∧ _ from ⟨k1, k2, k3, k4, hsz⟩)
      clear hF k1 k2 k3 k4
      have F2_ := Lib.hid (F2.out.below hb)
      clear F2
      have F2 := F2_
      clear F2_
      have BY_ := Lib.hid (BY.out.below hb)
      clear BY
      have BY := BY_
      clear BY_
      have BZ_ := Lib.hid (BZ.out.below hb)
      clear BZ
      have BZ := BZ_
      clear BZ_
      have C34 := Lib.hid (C33.out.step hb)
      clear hb hsz C33
      refine ⟨⟨(C34.out.get 1 rfl).cell, (C34.out.get 2 rfl).cell⟩, ?_⟩
      refine fm_skip rfl ?_
      refine fm_skip rfl ?_
      have e2 := N2.out; have e3 := N3.out; have eY := NY.out; have eZ := NZ.out; have e0 := (C34.out.get 4 rfl).lt; have l4 := L4.out
      have NE := Lib.hid (show (w.heap.size + 1 + 1 + 1 + 1 < y0.heap.size ∧ w.heap.size + 1 + 1 + 1 + 1 < x26.heap.size ∧ y0.heap.size ≠ x26.heap.size) ∧ (u ≠ [] → w.heap.size + 1 + 1 + 1 + 1 < b2 ∧ b2 ≠ y0.heap.size ∧ b2 ≠ x26.heap.size) ∧ (v ≠ [] → w.heap.size + 1 + 1 + 1 + 1 < b3 ∧ b3 ≠ y0.heap.size ∧ b3 ≠ x26.heap.size) ∧ (u ≠ [] → v ≠ [] → b2 ≠ b3) from ⟨by omega, fun h => by have := e2.2.2.2.1 h; omega, fun h => by have := e3.2.2.2.1 h; omega, fun h k => by have := e2.2.2.2.1 h; have := e3.2.2.2.1 k; omega⟩)
      have CP := Lib.hid (show u.length ≤ c2 ∧ c2 ≤ maxLen ∧ v.length ≤ c3 ∧ c3 ≤ maxLen from ⟨e2.1, e2.2.1, e3.1, e3.2.1⟩)
      clear e2 e3 eY eZ e0 l4 N2 N3 NY NZ
      refine fm_nil ?_
      obtain ⟨o1, o2, o3⟩ := BY.out.facts
      obtain ⟨o4, o5, o6⟩ := BZ.out.facts
      have hyz := NE.out.1.2.2
      have hzy : x26.heap.size ≠ y0.heap.size := fun e => NE.out.1.2.2 e.symm
      go_simp
      go_wp2_with fail
      refine NoPanic.normal ?_
      clear o1 o2 o3 o4 o5 o6 hyz hzy
      have hb1 := bel_put3U (W := x34) (y0.heap.size) (.int .i64 ru) (.int .i64 d.length) (.slice a2 u.length c2)
      have HR : BoxU w (((x34.setCell ⟨y0.heap.size, 0, none⟩ (.int .i64 ru)).setCell ⟨y0.heap.size, 1, none⟩ (.int .i64 d.length)).setCell ⟨y0.heap.size, 2, none⟩ (.slice a2 u.length c2)) _ ∧ Box (((x34.setCell ⟨y0.heap.size, 0, none⟩ (.int .i64 ru)).setCell ⟨y0.heap.size, 1, none⟩ (.int .i64 d.length)).setCell ⟨y0.heap.size, 2, none⟩ (.slice a2 u.length c2)) (y0.heap.size) [.int .i64 ru, .int .i64 d.length, .slice a2 u.length c2] ∧ Box (((x34.setCell ⟨y0.heap.size, 0, none⟩ (.int .i64 ru)).setCell ⟨y0.heap.size, 1, none⟩ (.int .i64 d.length)).setCell ⟨y0.heap.size, 2, none⟩ (.slice a2 u.length c2)) (x26.heap.size) [.int .i64 0, .int .i64 0, .slice none 0 0] ∧ FS (((x34.setCell ⟨y0.heap.size, 0, none⟩ (.int .i64 ru)).setCell ⟨y0.heap.size, 1, none⟩ (.int .i64 d.length)).setCell ⟨y0.heap.size, 2, none⟩ (.slice a2 u.length c2)) a2 b2 u ∧ FS (((x34.setCell ⟨y0.heap.size, 0, none⟩ (.int .i64 ru)).setCell ⟨y0.heap.size, 1, none⟩ (.int .i64 d.length)).setCell ⟨y0.heap.size, 2, none⟩ (.slice a2 u.length c2)) a3 b3 v := ⟨C34.out.belV (by have := NE.out.1; omega) (fun p hp => by have := NE.out.1.1; simp only [List.mem_cons, List.not_mem_nil, or_false] at hp; rcases hp with rfl | rfl | rfl | rfl | rfl <;> (show _ ≠ _) <;> simp <;> omega) hb1, Box.put3 BY.out _ _ _, BZ.out.bel (fun e => NE.out.1.2.2 e.symm) hb1, F2.out.belC (fun h => (NE.out.2.1 h).2.1) hb1, F3.out.belC (fun h => (NE.out.2.2.1 h).2.1) hb1⟩
      generalize ((x34.setCell ⟨y0.heap.size, 0, none⟩ (.int .i64 ru)).setCell ⟨y0.heap.size, 1, none⟩ (.int .i64 d.length)).setCell ⟨y0.heap.size, 2, none⟩ (.slice a2 u.length c2) = v1 at *
      have hb2 := bel_put3U (W := v1) (x26.heap.size) (.int .i64 rv) (.int .i64 d.length) (.slice a3 v.length c3)
      have HR2 := Lib.hid (show BoxU w (((v1.setCell ⟨x26.heap.size, 0, none⟩ (.int .i64 rv)).setCell ⟨x26.heap.size, 1, none⟩ (.int .i64 d.length)).setCell ⟨x26.heap.size, 2, none⟩ (.slice a3 v.length c3)) _ ∧ Box (((v1.setCell ⟨x26.heap.size, 0, none⟩ (.int .i64 rv)).setCell ⟨x26.heap.size, 1, none⟩ (.int .i64 d.length)).setCell ⟨x26.heap.size, 2, none⟩ (.slice a3 v.length c3)) (y0.heap.size) [.int .i64 ru, .int .i64 d.length, .slice a2 u.length c2] ∧ Box (((v1.setCell ⟨x26.heap.size, 0, none⟩ (.int .i64 rv)).setCell ⟨x26.heap.size, 1, none⟩ (.int .i64 d.length)).setCell ⟨x26.heap.size, 2, none⟩ (.slice a3 v.length c3)) (x26.heap.size) [.int .i64 rv, .int .i64 d.length, .slice a3 v.length c3] ∧ FS (((v1.setCell ⟨x26.heap.size, 0, none⟩ (.int .i64 rv)).setCell ⟨x26.heap.size, 1, none⟩ (.int .i64 d.length)).setCell ⟨x26.heap.size, 2, none⟩ (.slice a3 v.length c3)) a2 b2 u ∧ FS (((v1.setCell ⟨x26.heap.size, 0, none⟩ (.int .i64 rv)).setCell ⟨x26.heap.size, 1, none⟩ (.int .i64 d.length)).setCell ⟨x26.heap.size, 2, none⟩ (.slice a3 v.length c3)) a3 b3 v from ⟨HR.1.belV (by have := NE.out.1; omega) (fun p hp => by have := NE.out.1.2.1; simp only [List.mem_cons, List.not_mem_nil, or_false] at hp; rcases hp with rfl | rfl | rfl | rfl | rfl <;> (show _ ≠ _) <;> simp <;> omega) hb2, HR.2.1.bel NE.out.1.2.2 hb2, Box.put3 HR.2.2.1 _ _ _, HR.2.2.2.1.belC (fun h => (NE.out.2.1 h).2.2) hb2, HR.2.2.2.2.belC (fun h => (NE.out.2.2.1 h).2.2) hb2⟩)
      clear hb1 hb2 HR
      exact HQ.out _ _ _ _ _ _ _ ⟨_, _, a2, a3, b2, c2, b3, c3, rfl, rfl, HR2.out.1, HR2.out.2.1, HR2.out.2.2.1, HR2.out.2.2.2.1, HR2.out.2.2.2.2, CP.out, NE.out.1, NE.out.2.1, NE.out.2.2.1, NE.out.2.2.2⟩
end Go.Proofs.Ytdljnhdhigbefaa
