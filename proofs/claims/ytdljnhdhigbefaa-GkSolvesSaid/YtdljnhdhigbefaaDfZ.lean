/- The document's layer 17, a part of its Solve: a round (printed by gen_df.py). No condition but on lengths. -/
import Derived.Test.YtdljnhdhigbefaaDeZ
namespace Go.Proofs.Ytdljnhdhigbefaa
open Go Go.RowKit
set_option maxRecDepth 1000000
set_option linter.unusedSimpArgs false
set_option linter.unusedVariables false

theorem RHyp1U (x s : Nat) (hx : x < 18446744073709551616) (w : World) : Calls Try.prog 62 #[.float .f64 (raw x s), .float .f64 4607182418800017408] w fun e w' => FR e (hypW x 4607182418800017408) ∧ Below w.heap.size w w' := by
  have := RHypotF x s 4607182418800017408 0 hx (by decide) w
  rw [raw_of_not (show isnan 4607182418800017408 = false by kernel_rfl)] at this
  exact this
set_option maxRecDepth 1000000 in
set_option maxHeartbeats 32000000 in
theorem round_part (c0 c1 c2 c3 c4 c5 c6 c9 c10 c11 c17 c18 c22 c23 c24 c25 c26 c27 c28 c29 c30 c31 c32 c33 c34 c35 c36 c37 c38 c39 c40 c41 c42 c43 c44 c45 c46 c47 c48 c49 c50 c51 c52 c53 c54 c55 c56 c57 c58 c59 c60 c61 c62 c63 c64 c65 c66 c67 c68 c69 c70 c71 c72 c73 c74 c75 c76 c77 c78 c79 c80 c81 c82 c83 c84 c85 c86 c87 c88 c89 c90 c91 c92 c93 c94 c95 c96 c97 c98 c99 c100 c101 c102 c103 c104 c105 c106 c107 c108 c109 c110 c111 c112 c113 c114 c115 c116 c117 c118 c119 c120 c121 c122 c123 c124 c125 c126 c127 c128 c129 c130 c131 c132 c133 c134 c135 c136 c137 c138 c139 c140 c141 c142 c143 c144 c145 c146 c147 c148 c149 c150 c151 c152 c153 c154 c155 c156 c157 c158 c159 c160 c161 c162 c163 c164 c165 c166 c167 c168 c169 c170 c171 c172 c173 c174 c175 c176 c177 c178 c179 c180 c181 c182 c183 c184 c185 c186 c187 c188 c189 c190 c191 c192 c193 c194 c195 c196 c197 c198 c199 c200 c201 c202 c203 c204 c205 c206 c207 c208 c209 c210 c211 c212 c213 c214 c215 c216 c217 c218 c219 c220 c221 c222 c223 c224 c225 c226 c227 c228 c229 c230 c231 c232 c233 c234 c235 c236 c237 c238 c239 c240 c241 c242 c243 c244 c245 c246 c247 c248 c249 c250 c251 c252 c253 c254 c255 c256 c257 c258 c259 c260 c261 c262 c263 c264 c265 c266 c267 c268 c269 c270 c271 c272 c273 c274 c275 c276 c277 c278 c279 c280 c281 c282 c283 c284 c285 c286 c287 c288 c289 c290 c291 c292 c293 c294 c295 c296 c297 c298 c299 c300 c301 c302 c303 c304 c305 c306 c307 c308 c309 c310 c311 c312 c313 c314 c315 c316 c317 c318 c319 c320 c321 c322 c323 c324 c325 c326 c327 c328 c329 c330 c331 c332 c333 c334 c335 c336 c337 c338 c339 c340 c341 c342 c343 c344 c345 c346 c347 c348 c349 c350 c351 c352 c353 c354 c355 c356 c357 c358 c359 c360 c361 c362 c363 c364 c365 c366 c367 c368 c369 c370 c371 c372 c373 c374 c375 c376 c377 c378 c379 c380 c381 c382 c383 c384 c385 c386 c387 c388 c389 c390 c391 c392 c393 c394 c395 c396 c397 c398 c399 c400 c401 c402 c403 c404 c405 c406 c407 c408 c409 c410 c411 c412 c413 c414 c415 c416 c417 c418 c419 c420 : Value) (p : RgP) (T : GkS) (big sb s k m : Nat) (w0 w : World) (hG : RGk w0 w p T) (hk : k < p.n) (hm : m ≤ 30) (hs : s ≤ 20000) (J K : Act → World → Prop) (Q' : Exit → Act → World → Prop)
    (hJ : ∀ (a' : Act) (w' : World), (∃ u6 u9 u10 u19 u21 u22 u23 u24 u25 u26 u27 u28 u29 u30 u31 u32 u33 u34 u35 u36 u37 u38 u39 u40 u41 u42 u43 u44 u45 u86 u87 u88 u89 u90 u91 u92 u93 u94 u95 u96 u97 u98 u99 u100 u101 u102 u103 u104 u105 u106 u107 u108 u109 u110 u111 u112 u113 u114 u115 u116 u117 u118 u119 u120 u121 u122 u123 u124 u125 u126 u127 u128 u129 u130 u131 u132 u133 u134 u135 u136 u137 u138 u139 u140 u141 u142 u143 u144 u145 u146 u147 u148 u149 u150 u151 u152 u153 u154 u155 u156 u157 u158 u159 u160 u161 u162 u163 u164 u165 u166 u167 u168 u169 u170 u171 u172 u173 u174 u175 u176 u177 u178 u179 u180 u181 u182 u183 u184 u185 u186 u187 u188 u189 u190 u191 u192 u193 u194 u195 u196 u197 u198 u199 u200 u201 u202 u203 u204 u205 u206 u207 u208 u209 u210 u211 u212 u213 u214 u215 u216 u217 u218 u219 u220 u221 u222 u223 u224 u225 u226 u227 u228 u229 u230 u231 u232 u233 u234 u235 u236 u237 u238 u239 u240 u241 u242 u243 u244 u245 u246 u247 u248 u249 u250 u251 u252 u253 u254 u255 u256 u257 u258 u259 u260 u261 u262 u263 u264 u265 u266 u267 u268 u269 u270 u271 u272 u273 u274 u275 u276 u277 u278 u279 u280 u281 u282 u283 u284 u285 u286 u287 u288 u289 u290 u291 u292 u293 u294 u295 u296 u297 u298 u299 u300 u301 u302 u303 u304 u305 u306 u307 u308 u309 u310 u311 u312 u313 u314 u315 u316 u317 u318 u319 u320 u321 u322 u323 u324 u325 u326 u327 u328 u329 u330 u331 u332 u333 u334 u335 u336 u337 u338 u339 u340 u341 u342 u343 u344 u345 u346 u347 u348 u349 u350 u351 u352 u353 u354 u355 u356 u357 u358 u359 u360 u361 u362 u363 u364 u365 u366 u367 u368 u369 u370 u371 u372 u373 u374 u375 u376 u377 u378 u379 u380 u381 u382 u383 u384 u385 u386 u387 u388 u389 u390 u391 u392 u393 u394 u395 u396 u397 u398 u399 u400 u401 u402 u403 u404 u405 u406 : Value, ((startG T.d T.e big k).1 ≠ k ∧ m ≠ 30 ∧ u19 = .int .i64 (s + 1 : Nat) ∧ u21 = .int .i64 (m + 1 : Nat) ∧ RGk w0 w' p (sweepG p.n p.ru p.rv (preG p.n p.ru big k T) (startG T.d T.e big k).1 k)) ∧ a' = { tmps := #[c0, c1, c2, c3, c4, c5, u6, .pointer (some ⟨w0.heap.size + 1 + 1 + 1, 0, none⟩), .pointer (some ⟨w0.heap.size + 1 + 1 + 1 + 1, 0, none⟩), u9, u10, c11, .pointer (some ⟨p.Y, 0, none⟩), .pointer (some ⟨p.Z, 0, none⟩), .slice (some ⟨p.bd, 0, none⟩) p.n p.dc, .slice (some ⟨p.be, 0, none⟩) p.ne p.ec, .float .f64 (raw big sb), c17, c18, u19, .int .i64 (k : Nat), u21, u22, u23, u24, u25, u26, u27, u28, u29, u30, u31, u32, u33, u34, u35, u36, u37, u38, u39, u40, u41, u42, u43, u44, u45, c46, c47, c48, c49, c50, c51, c52, c53, c54, c55, c56, c57, c58, c59, c60, c61, c62, c63, c64, c65, c66, c67, c68, c69, c70, c71, c72, c73, c74, c75, c76, c77, c78, c79, c80, c81, c82, c83, c84, c85, u86, u87, u88, u89, u90, u91, u92, u93, u94, u95, u96, u97, u98, u99, u100, u101, u102, u103, u104, u105, u106, u107, u108, u109, u110, u111, u112, u113, u114, u115, u116, u117, u118, u119, u120, u121, u122, u123, u124, u125, u126, u127, u128, u129, u130, u131, u132, u133, u134, u135, u136, u137, u138, u139, u140, u141, u142, u143, u144, u145, u146, u147, u148, u149, u150, u151, u152, u153, u154, u155, u156, u157, u158, u159, u160, u161, u162, u163, u164, u165, u166, u167, u168, u169, u170, u171, u172, u173, u174, u175, u176, u177, u178, u179, u180, u181, u182, u183, u184, u185, u186, u187, u188, u189, u190, u191, u192, u193, u194, u195, u196, u197, u198, u199, u200, u201, u202, u203, u204, u205, u206, u207, u208, u209, u210, u211, u212, u213, u214, u215, u216, u217, u218, u219, u220, u221, u222, u223, u224, u225, u226, u227, u228, u229, u230, u231, u232, u233, u234, u235, u236, u237, u238, u239, u240, u241, u242, u243, u244, u245, u246, u247, u248, u249, u250, u251, u252, u253, u254, u255, u256, u257, u258, u259, u260, u261, u262, u263, u264, u265, u266, u267, u268, u269, u270, u271, u272, u273, u274, u275, u276, u277, u278, u279, u280, u281, u282, u283, u284, u285, u286, u287, u288, u289, u290, u291, u292, u293, u294, u295, u296, u297, u298, u299, u300, u301, u302, u303, u304, u305, u306, u307, u308, u309, u310, u311, u312, u313, u314, u315, u316, u317, u318, u319, u320, u321, u322, u323, u324, u325, u326, u327, u328, u329, u330, u331, u332, u333, u334, u335, u336, u337, u338, u339, u340, u341, u342, u343, u344, u345, u346, u347, u348, u349, u350, u351, u352, u353, u354, u355, u356, u357, u358, u359, u360, u361, u362, u363, u364, u365, u366, u367, u368, u369, u370, u371, u372, u373, u374, u375, u376, u377, u378, u379, u380, u381, u382, u383, u384, u385, u386, u387, u388, u389, u390, u391, u392, u393, u394, u395, u396, u397, u398, u399, u400, u401, u402, u403, u404, u405, u406, c407, c408, c409, c410, c411, c412, c413, c414, c415, c416, c417, c418, c419, c420], defers := [] }) → J a' w') (hKJ : ∀ (a' : Act) (w' : World), Met J a' w' → K a' w')
    (hX : ∀ (a' : Act) (w' : World), (∃ u6 u9 u10 u19 u21 u22 u23 u24 u25 u26 u27 u28 u29 u30 u31 u32 u33 u34 u35 u36 u37 u38 u39 u40 u41 u42 u43 u44 u45 u86 u87 u88 u89 u90 u91 u92 u93 u94 u95 u96 u97 u98 u99 u100 u101 u102 u103 u104 u105 u106 u107 u108 u109 u110 u111 u112 u113 u114 u115 u116 u117 u118 u119 u120 u121 u122 u123 u124 u125 u126 u127 u128 u129 u130 u131 u132 u133 u134 u135 u136 u137 u138 u139 u140 u141 u142 u143 u144 u145 u146 u147 u148 u149 u150 u151 u152 u153 u154 u155 u156 u157 u158 u159 u160 u161 u162 u163 u164 u165 u166 u167 u168 u169 u170 u171 u172 u173 u174 u175 u176 u177 u178 u179 u180 u181 u182 u183 u184 u185 u186 u187 u188 u189 u190 u191 u192 u193 u194 u195 u196 u197 u198 u199 u200 u201 u202 u203 u204 u205 u206 u207 u208 u209 u210 u211 u212 u213 u214 u215 u216 u217 u218 u219 u220 u221 u222 u223 u224 u225 u226 u227 u228 u229 u230 u231 u232 u233 u234 u235 u236 u237 u238 u239 u240 u241 u242 u243 u244 u245 u246 u247 u248 u249 u250 u251 u252 u253 u254 u255 u256 u257 u258 u259 u260 u261 u262 u263 u264 u265 u266 u267 u268 u269 u270 u271 u272 u273 u274 u275 u276 u277 u278 u279 u280 u281 u282 u283 u284 u285 u286 u287 u288 u289 u290 u291 u292 u293 u294 u295 u296 u297 u298 u299 u300 u301 u302 u303 u304 u305 u306 u307 u308 u309 u310 u311 u312 u313 u314 u315 u316 u317 u318 u319 u320 u321 u322 u323 u324 u325 u326 u327 u328 u329 u330 u331 u332 u333 u334 u335 u336 u337 u338 u339 u340 u341 u342 u343 u344 u345 u346 u347 u348 u349 u350 u351 u352 u353 u354 u355 u356 u357 u358 u359 u360 u361 u362 u363 u364 u365 u366 u367 u368 u369 u370 u371 u372 u373 u374 u375 u376 u377 u378 u379 u380 u381 u382 u383 u384 u385 u386 u387 u388 u389 u390 u391 u392 u393 u394 u395 u396 u397 u398 u399 u400 u401 u402 u403 u404 u405 u406 : Value, ((startG T.d T.e big k).1 = k ∧ u19 = .int .i64 (s : Nat) ∧ u21 = .int .i64 (m : Nat) ∧ RGk w0 w' p (finG p.n p.rv (preG p.n p.ru big k T) k)) ∧ a' = { tmps := #[c0, c1, c2, c3, c4, c5, u6, .pointer (some ⟨w0.heap.size + 1 + 1 + 1, 0, none⟩), .pointer (some ⟨w0.heap.size + 1 + 1 + 1 + 1, 0, none⟩), u9, u10, c11, .pointer (some ⟨p.Y, 0, none⟩), .pointer (some ⟨p.Z, 0, none⟩), .slice (some ⟨p.bd, 0, none⟩) p.n p.dc, .slice (some ⟨p.be, 0, none⟩) p.ne p.ec, .float .f64 (raw big sb), c17, c18, u19, .int .i64 (k : Nat), u21, u22, u23, u24, u25, u26, u27, u28, u29, u30, u31, u32, u33, u34, u35, u36, u37, u38, u39, u40, u41, u42, u43, u44, u45, c46, c47, c48, c49, c50, c51, c52, c53, c54, c55, c56, c57, c58, c59, c60, c61, c62, c63, c64, c65, c66, c67, c68, c69, c70, c71, c72, c73, c74, c75, c76, c77, c78, c79, c80, c81, c82, c83, c84, c85, u86, u87, u88, u89, u90, u91, u92, u93, u94, u95, u96, u97, u98, u99, u100, u101, u102, u103, u104, u105, u106, u107, u108, u109, u110, u111, u112, u113, u114, u115, u116, u117, u118, u119, u120, u121, u122, u123, u124, u125, u126, u127, u128, u129, u130, u131, u132, u133, u134, u135, u136, u137, u138, u139, u140, u141, u142, u143, u144, u145, u146, u147, u148, u149, u150, u151, u152, u153, u154, u155, u156, u157, u158, u159, u160, u161, u162, u163, u164, u165, u166, u167, u168, u169, u170, u171, u172, u173, u174, u175, u176, u177, u178, u179, u180, u181, u182, u183, u184, u185, u186, u187, u188, u189, u190, u191, u192, u193, u194, u195, u196, u197, u198, u199, u200, u201, u202, u203, u204, u205, u206, u207, u208, u209, u210, u211, u212, u213, u214, u215, u216, u217, u218, u219, u220, u221, u222, u223, u224, u225, u226, u227, u228, u229, u230, u231, u232, u233, u234, u235, u236, u237, u238, u239, u240, u241, u242, u243, u244, u245, u246, u247, u248, u249, u250, u251, u252, u253, u254, u255, u256, u257, u258, u259, u260, u261, u262, u263, u264, u265, u266, u267, u268, u269, u270, u271, u272, u273, u274, u275, u276, u277, u278, u279, u280, u281, u282, u283, u284, u285, u286, u287, u288, u289, u290, u291, u292, u293, u294, u295, u296, u297, u298, u299, u300, u301, u302, u303, u304, u305, u306, u307, u308, u309, u310, u311, u312, u313, u314, u315, u316, u317, u318, u319, u320, u321, u322, u323, u324, u325, u326, u327, u328, u329, u330, u331, u332, u333, u334, u335, u336, u337, u338, u339, u340, u341, u342, u343, u344, u345, u346, u347, u348, u349, u350, u351, u352, u353, u354, u355, u356, u357, u358, u359, u360, u361, u362, u363, u364, u365, u366, u367, u368, u369, u370, u371, u372, u373, u374, u375, u376, u377, u378, u379, u380, u381, u382, u383, u384, u385, u386, u387, u388, u389, u390, u391, u392, u393, u394, u395, u396, u397, u398, u399, u400, u401, u402, u403, u404, u405, u406, c407, c408, c409, c410, c411, c412, c413, c414, c415, c416, c417, c418, c419, c420], defers := [] }) → Q' (.exit 4) a' w')
    (hR : ∀ (a' : Act) (w' : World), (∃ u6 u9 u10 u19 u21 u22 u23 u24 u25 u26 u27 u28 u29 u30 u31 u32 u33 u34 u35 u36 u37 u38 u39 u40 u41 u42 u43 u44 u45 u86 u87 u88 u89 u90 u91 u92 u93 u94 u95 u96 u97 u98 u99 u100 u101 u102 u103 u104 u105 u106 u107 u108 u109 u110 u111 u112 u113 u114 u115 u116 u117 u118 u119 u120 u121 u122 u123 u124 u125 u126 u127 u128 u129 u130 u131 u132 u133 u134 u135 u136 u137 u138 u139 u140 u141 u142 u143 u144 u145 u146 u147 u148 u149 u150 u151 u152 u153 u154 u155 u156 u157 u158 u159 u160 u161 u162 u163 u164 u165 u166 u167 u168 u169 u170 u171 u172 u173 u174 u175 u176 u177 u178 u179 u180 u181 u182 u183 u184 u185 u186 u187 u188 u189 u190 u191 u192 u193 u194 u195 u196 u197 u198 u199 u200 u201 u202 u203 u204 u205 u206 u207 u208 u209 u210 u211 u212 u213 u214 u215 u216 u217 u218 u219 u220 u221 u222 u223 u224 u225 u226 u227 u228 u229 u230 u231 u232 u233 u234 u235 u236 u237 u238 u239 u240 u241 u242 u243 u244 u245 u246 u247 u248 u249 u250 u251 u252 u253 u254 u255 u256 u257 u258 u259 u260 u261 u262 u263 u264 u265 u266 u267 u268 u269 u270 u271 u272 u273 u274 u275 u276 u277 u278 u279 u280 u281 u282 u283 u284 u285 u286 u287 u288 u289 u290 u291 u292 u293 u294 u295 u296 u297 u298 u299 u300 u301 u302 u303 u304 u305 u306 u307 u308 u309 u310 u311 u312 u313 u314 u315 u316 u317 u318 u319 u320 u321 u322 u323 u324 u325 u326 u327 u328 u329 u330 u331 u332 u333 u334 u335 u336 u337 u338 u339 u340 u341 u342 u343 u344 u345 u346 u347 u348 u349 u350 u351 u352 u353 u354 u355 u356 u357 u358 u359 u360 u361 u362 u363 u364 u365 u366 u367 u368 u369 u370 u371 u372 u373 u374 u375 u376 u377 u378 u379 u380 u381 u382 u383 u384 u385 u386 u387 u388 u389 u390 u391 u392 u393 u394 u395 u396 u397 u398 u399 u400 u401 u402 u403 u404 u405 u406 : Value, ((startG T.d T.e big k).1 ≠ k ∧ m = 30 ∧ u6 = .slice none 0 0 ∧ u9 = .int .i64 (s : Nat) ∧ u10 = .bool false ∧ Box w' (w0.heap.size + 1 + 1 + 1) [.int .i64 0, .int .i64 0, .slice none 0 0] ∧ Box w' (w0.heap.size + 1 + 1 + 1 + 1) [.int .i64 0, .int .i64 0, .slice none 0 0] ∧ Below w0.heap.size w0 w') ∧ a' = { tmps := #[c0, c1, c2, c3, c4, c5, u6, .pointer (some ⟨w0.heap.size + 1 + 1 + 1, 0, none⟩), .pointer (some ⟨w0.heap.size + 1 + 1 + 1 + 1, 0, none⟩), u9, u10, c11, .pointer (some ⟨p.Y, 0, none⟩), .pointer (some ⟨p.Z, 0, none⟩), .slice (some ⟨p.bd, 0, none⟩) p.n p.dc, .slice (some ⟨p.be, 0, none⟩) p.ne p.ec, .float .f64 (raw big sb), c17, c18, u19, .int .i64 (k : Nat), u21, u22, u23, u24, u25, u26, u27, u28, u29, u30, u31, u32, u33, u34, u35, u36, u37, u38, u39, u40, u41, u42, u43, u44, u45, c46, c47, c48, c49, c50, c51, c52, c53, c54, c55, c56, c57, c58, c59, c60, c61, c62, c63, c64, c65, c66, c67, c68, c69, c70, c71, c72, c73, c74, c75, c76, c77, c78, c79, c80, c81, c82, c83, c84, c85, u86, u87, u88, u89, u90, u91, u92, u93, u94, u95, u96, u97, u98, u99, u100, u101, u102, u103, u104, u105, u106, u107, u108, u109, u110, u111, u112, u113, u114, u115, u116, u117, u118, u119, u120, u121, u122, u123, u124, u125, u126, u127, u128, u129, u130, u131, u132, u133, u134, u135, u136, u137, u138, u139, u140, u141, u142, u143, u144, u145, u146, u147, u148, u149, u150, u151, u152, u153, u154, u155, u156, u157, u158, u159, u160, u161, u162, u163, u164, u165, u166, u167, u168, u169, u170, u171, u172, u173, u174, u175, u176, u177, u178, u179, u180, u181, u182, u183, u184, u185, u186, u187, u188, u189, u190, u191, u192, u193, u194, u195, u196, u197, u198, u199, u200, u201, u202, u203, u204, u205, u206, u207, u208, u209, u210, u211, u212, u213, u214, u215, u216, u217, u218, u219, u220, u221, u222, u223, u224, u225, u226, u227, u228, u229, u230, u231, u232, u233, u234, u235, u236, u237, u238, u239, u240, u241, u242, u243, u244, u245, u246, u247, u248, u249, u250, u251, u252, u253, u254, u255, u256, u257, u258, u259, u260, u261, u262, u263, u264, u265, u266, u267, u268, u269, u270, u271, u272, u273, u274, u275, u276, u277, u278, u279, u280, u281, u282, u283, u284, u285, u286, u287, u288, u289, u290, u291, u292, u293, u294, u295, u296, u297, u298, u299, u300, u301, u302, u303, u304, u305, u306, u307, u308, u309, u310, u311, u312, u313, u314, u315, u316, u317, u318, u319, u320, u321, u322, u323, u324, u325, u326, u327, u328, u329, u330, u331, u332, u333, u334, u335, u336, u337, u338, u339, u340, u341, u342, u343, u344, u345, u346, u347, u348, u349, u350, u351, u352, u353, u354, u355, u356, u357, u358, u359, u360, u361, u362, u363, u364, u365, u366, u367, u368, u369, u370, u371, u372, u373, u374, u375, u376, u377, u378, u379, u380, u381, u382, u383, u384, u385, u386, u387, u388, u389, u390, u391, u392, u393, u394, u395, u396, u397, u398, u399, u400, u401, u402, u403, u404, u405, u406, c407, c408, c409, c410, c411, c412, c413, c414, c415, c416, c417, c418, c419, c420], defers := [] }) → Q' .ret a' w') :
    Code.wp Try.prog ((findBlock (Try.f19.body.getD .skip) 5).getD .skip) (Exit.then K Q') { tmps := #[c0, c1, c2, c3, c4, c5, c6, .pointer (some ⟨w0.heap.size + 1 + 1 + 1, 0, none⟩), .pointer (some ⟨w0.heap.size + 1 + 1 + 1 + 1, 0, none⟩), c9, c10, c11, .pointer (some ⟨p.Y, 0, none⟩), .pointer (some ⟨p.Z, 0, none⟩), .slice (some ⟨p.bd, 0, none⟩) p.n p.dc, .slice (some ⟨p.be, 0, none⟩) p.ne p.ec, .float .f64 (raw big sb), c17, c18, .int .i64 (s : Nat), .int .i64 (k : Nat), .int .i64 (m : Nat), c22, c23, c24, c25, c26, c27, c28, c29, c30, c31, c32, c33, c34, c35, c36, c37, c38, c39, c40, c41, c42, c43, c44, c45, c46, c47, c48, c49, c50, c51, c52, c53, c54, c55, c56, c57, c58, c59, c60, c61, c62, c63, c64, c65, c66, c67, c68, c69, c70, c71, c72, c73, c74, c75, c76, c77, c78, c79, c80, c81, c82, c83, c84, c85, c86, c87, c88, c89, c90, c91, c92, c93, c94, c95, c96, c97, c98, c99, c100, c101, c102, c103, c104, c105, c106, c107, c108, c109, c110, c111, c112, c113, c114, c115, c116, c117, c118, c119, c120, c121, c122, c123, c124, c125, c126, c127, c128, c129, c130, c131, c132, c133, c134, c135, c136, c137, c138, c139, c140, c141, c142, c143, c144, c145, c146, c147, c148, c149, c150, c151, c152, c153, c154, c155, c156, c157, c158, c159, c160, c161, c162, c163, c164, c165, c166, c167, c168, c169, c170, c171, c172, c173, c174, c175, c176, c177, c178, c179, c180, c181, c182, c183, c184, c185, c186, c187, c188, c189, c190, c191, c192, c193, c194, c195, c196, c197, c198, c199, c200, c201, c202, c203, c204, c205, c206, c207, c208, c209, c210, c211, c212, c213, c214, c215, c216, c217, c218, c219, c220, c221, c222, c223, c224, c225, c226, c227, c228, c229, c230, c231, c232, c233, c234, c235, c236, c237, c238, c239, c240, c241, c242, c243, c244, c245, c246, c247, c248, c249, c250, c251, c252, c253, c254, c255, c256, c257, c258, c259, c260, c261, c262, c263, c264, c265, c266, c267, c268, c269, c270, c271, c272, c273, c274, c275, c276, c277, c278, c279, c280, c281, c282, c283, c284, c285, c286, c287, c288, c289, c290, c291, c292, c293, c294, c295, c296, c297, c298, c299, c300, c301, c302, c303, c304, c305, c306, c307, c308, c309, c310, c311, c312, c313, c314, c315, c316, c317, c318, c319, c320, c321, c322, c323, c324, c325, c326, c327, c328, c329, c330, c331, c332, c333, c334, c335, c336, c337, c338, c339, c340, c341, c342, c343, c344, c345, c346, c347, c348, c349, c350, c351, c352, c353, c354, c355, c356, c357, c358, c359, c360, c361, c362, c363, c364, c365, c366, c367, c368, c369, c370, c371, c372, c373, c374, c375, c376, c377, c378, c379, c380, c381, c382, c383, c384, c385, c386, c387, c388, c389, c390, c391, c392, c393, c394, c395, c396, c397, c398, c399, c400, c401, c402, c403, c404, c405, c406, c407, c408, c409, c410, c411, c412, c413, c414, c415, c416, c417, c418, c419, c420], defers := [] } w := by
  conv => arg 2; whnf
  have HKJ := Lib.hid hKJ
  have HJ := Lib.hid hJ
  have HXX := Lib.hid hX
  have HRR := Lib.hid hR
  have H1 := Lib.hid hG
  have HK := Lib.hid (show k < p.n ∧ k < 512 ∧ k < p.ne ∧ 0 < p.n ∧ m ≤ 30 ∧ s ≤ 20000 from ⟨hk, by have := hG.hn; omega, by have := hG.hn; omega, by omega, hm, hs⟩)
  have HL1 := Lib.hid (And.intro (startG_low T.d T.e big k) (startG_posU T.d T.e big k))
  have HPre := Lib.hid (show preG p.n p.ru big k T = if (startG T.d T.e big k).2 then clearG p.n p.ru big (startG T.d T.e big k).1 k T else T from rfl)
  obtain ⟨l, hl⟩ : ∃ l, l = (startG T.d T.e big k).1 := ⟨_, rfl⟩
  obtain ⟨c, hc⟩ : ∃ c, c = (startG T.d T.e big k).2 := ⟨_, rfl⟩
  obtain ⟨V, hV⟩ : ∃ V, V = preG p.n p.ru big k T := ⟨_, rfl⟩
  rw [← hl, ← hc, ← hV] at HPre
  rw [← hl, ← hc] at HL1
  rw [← hl, ← hV] at HJ
  rw [← hl, ← hV] at HXX
  rw [← hl] at HRR
  have HLC := Lib.hid (And.intro hl hc)
  have hkn := hk
  have hk5 : k < 512 := HK.out.2.1
  have hlk : l ≤ k := HL1.out.1
  clear hJ hKJ hX hR hG hk hl hc hV
  go_upto_block 6 with (fail)
  refine start_part_q _ _ _ _ _ _ _ _ _ _ _ _ _ _ _ _ _ _ _ _ _ _ _ _ _ _ _ _ _ _ _ _ _ _ _ _ _ _ _ _ _ _ _ _ _ _ _ _ _ _ _ _ _ _ _ _ _ _ _ _ _ _ _ _ _ _ _ _ _ _ _ _ _ _ _ _ _ _ _ _ _ _ _ _ _ _ _ _ _ _ _ _ _ _ _ _ _ _ _ _ _ _ _ _ _ _ _ _ _ _ _ _ _ _ _ _ _ _ _ _ _ _ _ _ _ _ _ _ _ _ _ _ _ _ _ _ _ _ _ _ _ _ _ _ _ _ _ _ _ _ _ _ _ _ _ _ _ _ _ _ _ _ _ _ _ _ _ _ _ _ _ _ _ _ _ _ _ _ _ _ _ _ _ _ _ _ _ _ _ _ _ _ _ _ _ _ _ _ _ _ _ _ _ _ _ _ _ _ _ _ _ _ _ _ _ _ _ _ _ _ _ _ _ _ _ _ _ _ _ _ _ _ _ _ _ _ _ _ _ _ _ _ _ _ _ _ _ _ _ _ _ _ _ _ _ _ _ _ _ _ _ _ _ _ _ _ _ _ _ _ _ _ _ _ _ _ _ _ _ _ _ _ _ _ _ _ _ _ _ _ _ _ _ _ _ _ _ _ _ _ _ _ _ _ _ _ _ _ _ _ _ _ _ _ _ _ _ _ _ _ _ _ _ _ _ _ _ _ _ _ _ _ _ _ _ _ _ _ _ _ _ _ _ _ _ _ _ _ _ _ _ _ _ _ _ _ _ _ _ _ _ _ _ _ _ _ _ _ _ _ _ _ _ _ _ _ _ _ _ _ _ _ _ _ _ _ _ _ _ _ _ _ _ _ _ _ _ _ _ _ _ _ _ _ _ _ _ _ _ _ _ _ _ _ _ p T big sb k w0 w H1.out HK.out.1 _ ?_
  intro u22 u23 u87 u88 u89 u90 u91 u92 u93 u94 u95 u96 u97 u98 u99 u100 u101 u102 u103 u104 u105 u106 u107 u108 u109 w1 hcut
  obtain ⟨rfl, rfl, hG⟩ := hcut
  rw [← HLC.out.1, ← HLC.out.2]
  have H2 := Lib.hid hG
  clear hG H1
  go_upto_if 110 with (fail)
  go_cut [24, 25, 26, 27, 28, 29, 30] from 111 to 165 (fun s24 s25 s26 s27 s28 s29 s30 wx => RGk w0 wx p V)
  case first =>
    have HP2 := HPre.out
    cases c
    case false =>
      have HV := Lib.hid (show V = T from HP2)
      clear HP2
      go_wp2_with fail
      go_meet
      case rel => rw [HV.out]; exact H2.out
    case true =>
      have HV := Lib.hid (show V = clearG p.n p.ru big l k T from HP2)
      clear HP2
      go_upto_block 8 with (fail)
      refine clear_part_q _ _ _ _ _ _ _ _ _ _ _ _ _ _ _ _ _ _ _ _ _ _ _ _ _ _ _ _ _ _ _ _ _ _ _ _ _ _ _ _ _ _ _ _ _ _ _ _ _ _ _ _ _ _ _ _ _ _ _ _ _ _ _ _ _ _ _ _ _ _ _ _ _ _ _ _ _ _ _ _ _ _ _ _ _ _ _ _ _ _ _ _ _ _ _ _ _ _ _ _ _ _ _ _ _ _ _ _ _ _ _ _ _ _ _ _ _ _ _ _ _ _ _ _ _ _ _ _ _ _ _ _ _ _ _ _ _ _ _ _ _ _ _ _ _ _ _ _ _ _ _ _ _ _ _ _ _ _ _ _ _ _ _ _ _ _ _ _ _ _ _ _ _ _ _ _ _ _ _ _ _ _ _ _ _ _ _ _ _ _ _ _ _ _ _ _ _ _ _ _ _ _ _ _ _ _ _ _ _ _ _ _ _ _ _ _ _ _ _ _ _ _ _ _ _ _ _ _ _ _ _ _ _ _ _ _ _ _ _ _ _ _ _ _ _ _ _ _ _ _ _ _ _ _ _ _ _ _ _ _ _ _ _ _ _ _ _ _ _ _ _ _ _ _ _ _ _ _ _ _ _ _ _ _ _ _ _ _ _ _ _ _ _ _ _ _ _ _ _ _ _ _ _ _ _ _ _ _ _ _ _ _ _ _ _ _ _ _ _ _ _ _ _ _ _ _ _ _ _ _ _ _ _ _ _ _ _ _ _ _ _ _ _ _ _ _ _ _ _ _ _ _ _ _ _ _ _ _ _ _ _ _ _ _ _ _ _ _ _ _ _ _ _ _ _ _ _ _ _ _ _ _ _ _ _ _ _ _ _ _ _ _ _ _ _ _ _ _ _ _ _ _ _ _ _ _ _ _ _ _ _ _ p T big sb l k w0 w1 H2.out (HL1.out.2 rfl) hlk HK.out.1 _ ?_
      intro u24 u25 u26 u27 u28 u29 u30 u112 u113 u114 u115 u116 u117 u118 u119 u120 u121 u122 u123 u124 u125 u126 u127 u128 u129 u130 u131 u132 u133 u134 u135 u136 u137 u138 u139 u140 u141 u142 u143 u144 u145 u146 u147 u148 u149 u150 u151 u152 u153 u154 u155 u156 u157 u158 u159 u160 u161 u162 u163 u164 u165 w2 hcut
      have H3 := Lib.hid (show RGk w0 w2 p V by rw [HV.out]; exact hcut)
      clear hcut
      go_wp2_with fail
      go_meet
      case rel => exact H3.out
  case rest =>
    have H3 := Lib.hid hcut
    clear hcut H2 HPre HL1 HLC
    by_cases hlk2 : k = l
    case pos =>
      subst hlk2
      obtain ⟨x, hx⟩ : ∃ x, x = V.d.getD k 0 := ⟨_, rfl⟩
      have HX := Lib.hid (show x = V.d.getD k 0 ∧ x < 18446744073709551616 from ⟨hx, hx ▸ H3.out.wd.at _⟩)
      clear hx
      have HFin := Lib.hid (show finG p.n p.rv V k = if flt x 0 then { V with d := V.d.set k (fneg x), v := negL V.v p.n k p.rv } else V by rw [HX.out.1]; rfl)
      obtain ⟨sx, cx⟩ := H3.out.atD hkn
      rw [← HX.out.1] at cx
      have ld := (H3.out.ltD HK.out.2.2.2.1).1
      have fd := H3.out.frD HK.out.2.2.2.1
      go_upto_region 41 with (fail)
      cases hq : flt x 0
      case false =>
        have H4 := Lib.hid (show RGk w0 wc p (finG p.n p.rv V k) by rw [HFin.out, hq]; exact H3.out)
        clear H3 HFin
        go_wp2_with fail
        refine HXX.out _ _ ?_
        (repeat apply Exists.intro)
        exact ⟨⟨rfl, rfl, rfl, H4.out⟩, rfl⟩
      case true =>
        go_upto_region 43 with (fail)
        obtain ⟨sn, hsn⟩ := neg_raw x sx HX.out.2
        rw [hsn]
        clear hsn cx ld fd
        obtain ⟨v2, hv2⟩ : ∃ x, x = _ := ⟨wc.setCell ⟨p.bd, k, none⟩ (.float .f64 (raw (fneg x) sn)), rfl⟩
        rw [← hv2]
        have H4 := Lib.hid (show RGk w0 v2 p { V with d := V.d.set k (fneg x) } from hv2 ▸ H3.out.setD HK.out.2.2.2.1 k (fneg x) sn (fneg_lt HX.out.2))
        clear hv2 H3
        go_upto_block 10 with (fail)
        refine sign_part_q _ _ _ _ _ _ _ _ _ _ _ _ _ _ _ _ _ _ _ _ _ _ _ _ _ _ _ _ _ _ _ _ _ _ _ _ _ _ _ _ _ _ _ _ _ _ _ _ _ _ _ _ _ _ _ _ _ _ _ _ _ _ _ _ _ _ _ _ _ _ _ _ _ _ _ _ _ _ _ _ _ _ _ _ _ _ _ _ _ _ _ _ _ _ _ _ _ _ _ _ _ _ _ _ _ _ _ _ _ _ _ _ _ _ _ _ _ _ _ _ _ _ _ _ _ _ _ _ _ _ _ _ _ _ _ _ _ _ _ _ _ _ _ _ _ _ _ _ _ _ _ _ _ _ _ _ _ _ _ _ _ _ _ _ _ _ _ _ _ _ _ _ _ _ _ _ _ _ _ _ _ _ _ _ _ _ _ _ _ _ _ _ _ _ _ _ _ _ _ _ _ _ _ _ _ _ _ _ _ _ _ _ _ _ _ _ _ _ _ _ _ _ _ _ _ _ _ _ _ _ _ _ _ _ _ _ _ _ _ _ _ _ _ _ _ _ _ _ _ _ _ _ _ _ _ _ _ _ _ _ _ _ _ _ _ _ _ _ _ _ _ _ _ _ _ _ _ _ _ _ _ _ _ _ _ _ _ _ _ _ _ _ _ _ _ _ _ _ _ _ _ _ _ _ _ _ _ _ _ _ _ _ _ _ _ _ _ _ _ _ _ _ _ _ _ _ _ _ _ _ _ _ _ _ _ _ _ _ _ _ _ _ _ _ _ _ _ _ _ _ _ _ _ _ _ _ _ _ _ _ _ _ _ _ _ _ _ _ _ _ _ _ _ _ _ _ _ _ _ _ _ _ _ _ _ _ _ _ _ _ _ _ _ _ _ _ _ _ _ _ _ _ _ _ _ _ _ _ _ _ _ _ _ _ _ _ _ _ p _ k w0 v2 H4.out HK.out.1 _ ?_
        intro u31 u182 u183 u184 u185 u186 u187 u188 u189 u190 u191 u192 u193 u194 u195 u196 u197 u198 u199 u200 u201 u202 u203 u204 u205 u206 u207 v3 hcut
        have H5 := Lib.hid (show RGk w0 v3 p (finG p.n p.rv V k) by rw [HFin.out, hq]; exact hcut)
        clear hcut H4 HFin
        go_wp2_with fail
        refine HXX.out _ _ ?_
        (repeat apply Exists.intro)
        exact ⟨⟨rfl, rfl, rfl, H5.out⟩, rfl⟩
    case neg =>
      have HNE := Lib.hid (show ¬ l = k from fun h => hlk2 h.symm)
      have hlk3 : ¬ (l : Int) = (k : Int) := by omega
      clear hlk2
      by_cases hm30 : m = 30
      case pos =>
        subst hm30
        obtain ⟨f1, f2, f3⟩ := H3.out.x3.facts
        obtain ⟨g1, g2, g3⟩ := H3.out.x4.facts
        have z3 := (Box.put3 H3.out.x3 (.int .i64 0) (.int .i64 0) (.slice none 0 0)).set_other3U (m := w0.heap.size + 1 + 1 + 1 + 1) (by omega) (v0 := .int .i64 0) (v1 := .int .i64 0) (v2 := .slice none 0 0)
        have z4 := Box.put3 (H3.out.x4.set_other3U (m := w0.heap.size + 1 + 1 + 1) (by omega) (v0 := .int .i64 0) (v1 := .int .i64 0) (v2 := .slice none 0 0)) (.int .i64 0) (.int .i64 0) (.slice none 0 0)
        have hB := below_put3 (below_put3 H3.out.below (show w0.heap.size ≤ w0.heap.size + 1 + 1 + 1 by omega) (.int .i64 0) (.int .i64 0) (.slice none 0 0)) (show w0.heap.size ≤ w0.heap.size + 1 + 1 + 1 + 1 by omega) (.int .i64 0) (.int .i64 0) (.slice none 0 0)
        have HZ := Lib.hid (show _ ∧ _ ∧ _ from ⟨z3, z4, hB⟩)
        clear z3 z4 hB
        go_wp2_with fail
        refine HRR.out _ _ ?_
        (repeat apply Exists.intro)
        exact ⟨⟨HNE.out, rfl, rfl, rfl, rfl, HZ.out.1, HZ.out.2.1, HZ.out.2.2⟩, rfl⟩
      case neg =>
        have HM3 := Lib.hid hm30
        have hm3 : ¬ (m : Int) = 30 := by omega
        clear hm30
        have hm31 : m ≤ 30 := HK.out.2.2.2.2.1
        have hs2 : s ≤ 20000 := HK.out.2.2.2.2.2
        obtain ⟨k0, hk0⟩ : ∃ k0, k = k0 + 1 := ⟨k - 1, by have := HNE.out; omega⟩
        have HW9 := Lib.hid (w64s hk0 (by omega))
        have HQ := Lib.hid (show l < k ∧ k = k0 + 1 ∧ k0 < p.n ∧ k0 < p.ne ∧ l < p.n ∧ k < p.ne from by have := HNE.out; have := HK.out; exact ⟨by omega, hk0, by omega, by omega, by omega, by omega⟩)
        clear hk0
        obtain ⟨dk, hdk⟩ : ∃ x, x = V.d.getD k 0 := ⟨_, rfl⟩
        obtain ⟨dl, hdl⟩ : ∃ x, x = V.d.getD l 0 := ⟨_, rfl⟩
        obtain ⟨d0, hd0⟩ : ∃ x, x = V.d.getD k0 0 := ⟨_, rfl⟩
        obtain ⟨e0, he0⟩ : ∃ x, x = V.e.getD k0 0 := ⟨_, rfl⟩
        obtain ⟨ek, hek⟩ : ∃ x, x = V.e.getD k 0 := ⟨_, rfl⟩
        have HV := Lib.hid (show dk = V.d.getD k 0 ∧ dl = V.d.getD l 0 ∧ d0 = V.d.getD k0 0 ∧ e0 = V.e.getD k0 0 ∧ ek = V.e.getD k 0 from ⟨hdk, hdl, hd0, he0, hek⟩)
        have HVL := Lib.hid (show dl < 18446744073709551616 from hdl ▸ H3.out.wd.at _)
        clear hdk hdl hd0 he0 hek
        have hdr : Below wc.heap.size wc wc.drew := below_drewN 1 (Below.refl _ wc)
        go_upto_region 51 with (fail)
        have H4 := Lib.hid (show RGk w0 wc.drew p V from H3.out.step hdr)
        clear H3 hdr
        obtain ⟨sdk, cdk⟩ := H4.out.atD hkn
        rw [← HV.out.1] at cdk
        obtain ⟨sdl, cdl⟩ := H4.out.atD HQ.out.2.2.2.2.1
        rw [← HV.out.2.1] at cdl
        obtain ⟨sd0, cd0⟩ := H4.out.atD HQ.out.2.2.1
        rw [← HV.out.2.2.1] at cd0
        obtain ⟨se0, ce0⟩ := H4.out.atE HK.out.2.2.2.1 HQ.out.2.2.2.1
        rw [← HV.out.2.2.2.1] at ce0
        obtain ⟨sek, cek⟩ := H4.out.atE HK.out.2.2.2.1 HQ.out.2.2.2.2.2
        rw [← HV.out.2.2.2.2] at cek
        have hke := HQ.out.2.2.2.2.2
        have hln := HQ.out.2.2.2.2.1
        have hkn0 := HQ.out.2.2.1
        have hke0 := HQ.out.2.2.2.1
        have hw1 := HW9.out.1
        have hw2 := HW9.out.2
        refine wp_region_items 26 [(true, 0), (true, 1), (true, 2), (true, 3), (true, 4), (true, 5), (true, 6), (true, 7), (true, 8), (true, 9), (true, 10), (true, 11), (true, 12), (true, 13), (true, 14), (true, 15), (true, 16), (true, 17), (true, 18), (true, 19), (true, 20), (true, 21), (true, 22), (true, 23), (true, 24), (true, 25)] (fun W => W.cell? ⟨p.bd, k, none⟩ = some (.float .f64 (raw dk sdk)) ∧ W.cell? ⟨p.bd, l, none⟩ = some (.float .f64 (raw dl sdl)) ∧ W.cell? ⟨p.bd, k0, none⟩ = some (.float .f64 (raw d0 sd0)) ∧ W.cell? ⟨p.be, k0, none⟩ = some (.float .f64 (raw e0 se0)) ∧ W.cell? ⟨p.be, k, none⟩ = some (.float .f64 (raw ek sek))) (by kernel_rfl) (by kernel_rfl) ⟨cdk, cdl, cd0, ce0, cek⟩ ?_
        generalize wc.drew = v4 at *
        clear cdk cdl cd0 ce0 cek
        iterate 26 (refine iW_take (v := ?_) rfl rfl ?_ ?_; rotate_left; (next => (intro w' hSw; (try dsimp only at hSw); go_simp; (try (rw [if_pos (by omega)]; go_simp)); (try with_reducible rfl))); (simp only [Act.put, List.setIfInBounds_toArray, List.set_cons_zero, List.set_cons_succ]))
        refine iW_nil ?_
        go_simp
        go_wp2_with fail
        refine NoPanic.normal ?_
        clear hw1 hw2
        go_upto_region 57 with (first | (first | ((fail_if_success (have q_ := na1)); (refine wpList_flt rfl rfl rfl rfl rfl ?_; intro K hK sa1 na1; go_frame; refine hK _ _ ?_; clear hK K)) | ((fail_if_success (have q_ := na2)); (refine wpList_flt rfl rfl rfl rfl rfl ?_; intro K hK sa2 na2; go_frame; refine hK _ _ ?_; clear hK K)) | ((fail_if_success (have q_ := na3)); (refine wpList_flt rfl rfl rfl rfl rfl ?_; intro K hK sa3 na3; go_frame; refine hK _ _ ?_; clear hK K)) | ((fail_if_success (have q_ := nb1)); (refine wpList_flt rfl rfl rfl rfl rfl ?_; intro K hK sb1 nb1; go_frame; refine hK _ _ ?_; clear hK K)) | ((fail_if_success (have q_ := nb2)); (refine wpList_flt rfl rfl rfl rfl rfl ?_; intro K hK sb2 nb2; go_frame; refine hK _ _ ?_; clear hK K)) | ((fail_if_success (have q_ := nb3)); (refine wpList_flt rfl rfl rfl rfl rfl ?_; intro K hK sb3 nb3; go_frame; refine hK _ _ ?_; clear hK K)) | ((fail_if_success (have q_ := nd1)); (refine wpList_flt rfl rfl rfl rfl rfl ?_; intro K hK sd1 nd1; go_frame; refine hK _ _ ?_; clear hK K)) | ((fail_if_success (have q_ := ne1)); (refine wpList_flt rfl rfl rfl rfl rfl ?_; intro K hK se1 ne1; go_frame; refine hK _ _ ?_; clear hK K)) | ((fail_if_success (have q_ := ng1)); (refine wpList_flt rfl rfl rfl rfl rfl ?_; intro K hK sg1 ng1; go_frame; refine hK _ _ ?_; clear hK K)) | ((fail_if_success (have q_ := ng2)); (refine wpList_flt rfl rfl rfl rfl rfl ?_; intro K hK sg2 ng2; go_frame; refine hK _ _ ?_; clear hK K))))
        simp only [fadd_rawl, fadd_rawr, fsub_rawl, fsub_rawr, fmul_rawl, fmul_rawr, fdiv_rawl, fdiv_rawr]
        have hb : Below v4.heap.size v4 ((((((((((v4.drewN na1).drewN na2).drewN na3).drewN nb1).drewN nb2).drewN nb3).drewN nd1).drewN ne1).drewN ng1).drewN ng2) := below_trd (below_trd (below_trd (below_trd (below_trd (below_trd (below_trd (below_trd (below_trd (below_trd (Below.refl _ _) _) _) _) _) _) _) _) _) _) _
        have H5 := Lib.hid (H4.out.step hb)
        clear H4
        generalize (((((((((v4.drewN na1).drewN na2).drewN na3).drewN nb1).drewN nb2).drewN nb3).drewN nd1).drewN ne1).drewN ng1).drewN ng2 = v5 at *
        clear hb
        obtain ⟨f0, h_⟩ : ∃ x, x = fdiv (fadd (fmul (fsub d0 dk) (fadd d0 dk)) (fmul (fsub e0 ek) (fadd e0 ek))) (fmul (fmul 4611686018427387904 ek) d0) := ⟨_, rfl⟩
        rw [← h_]
        have Ef0 := Lib.hid h_
        clear h_
        have HF0 := Lib.hid (show f0 < 18446744073709551616 from Ef0.out ▸ fdiv_lt _ _)
        go_wp2_with fail
        refine (RHyp1U f0 sg2 HF0.out _).mono ?_
        rintro r y1 ⟨⟨sg, rfl⟩, hb⟩
        have H6 := Lib.hid (H5.out.step hb)
        clear H5
        clear hb
        dsimp only
        obtain ⟨g0, h_⟩ : ∃ x, x = hypW f0 4607182418800017408 := ⟨_, rfl⟩
        rw [← h_]
        have Eg0 := Lib.hid h_
        clear h_
        have HG0 := Lib.hid (show g0 < 18446744073709551616 ∧ (isnan f0 = true → isnan g0 = true) from ⟨Eg0.out ▸ hypW_lt _ _, fun h => Eg0.out ▸ hyp_nan h⟩)
        go_upto_region 59 with (first | (first | ((fail_if_success (have q_ := nh1)); (refine wpList_flt rfl rfl rfl rfl rfl ?_; intro K hK sh1 nh1; go_frame; refine hK _ _ ?_; clear hK K)) | ((fail_if_success (have q_ := nh2)); (refine wpList_flt rfl rfl rfl rfl rfl ?_; intro K hK sh2 nh2; go_frame; refine hK _ _ ?_; clear hK K)) | ((fail_if_success (have q_ := nh3)); (refine wpList_flt rfl rfl rfl rfl rfl ?_; intro K hK sh3 nh3; go_frame; refine hK _ _ ?_; clear hK K))))
        simp only [fadd_rawl, fadd_rawr, fsub_rawl, fsub_rawr, fmul_rawl, fmul_rawr, fdiv_rawl, fdiv_rawr]
        have hb : Below y1.heap.size y1 (((y1.drewN nh1).drewN nh2).drewN nh3) := below_trd (below_trd (below_trd (Below.refl _ _) _) _) _
        have H7 := Lib.hid (H6.out.step hb)
        clear H6
        generalize ((y1.drewN nh1).drewN nh2).drewN nh3 = v7 at *
        clear hb
        go_wp2_with fail
        refine (RSignF g0 sg f0 sg2 HG0.out.1 HF0.out HG0.out.2 _).mono ?_
        rintro r y2 ⟨⟨sh, rfl⟩, rfl⟩
        dsimp only
        go_upto_region 62 with (first | (first | ((fail_if_success (have q_ := ni1)); (refine wpList_flt rfl rfl rfl rfl rfl ?_; intro K hK si1 ni1; go_frame; refine hK _ _ ?_; clear hK K)) | ((fail_if_success (have q_ := ni2)); (refine wpList_flt rfl rfl rfl rfl rfl ?_; intro K hK si2 ni2; go_frame; refine hK _ _ ?_; clear hK K)) | ((fail_if_success (have q_ := ni3)); (refine wpList_flt rfl rfl rfl rfl rfl ?_; intro K hK si3 ni3; go_frame; refine hK _ _ ?_; clear hK K)) | ((fail_if_success (have q_ := nj1)); (refine wpList_flt rfl rfl rfl rfl rfl ?_; intro K hK sj1 nj1; go_frame; refine hK _ _ ?_; clear hK K)) | ((fail_if_success (have q_ := nk1)); (refine wpList_flt rfl rfl rfl rfl rfl ?_; intro K hK sk1 nk1; go_frame; refine hK _ _ ?_; clear hK K)) | ((fail_if_success (have q_ := nk2)); (refine wpList_flt rfl rfl rfl rfl rfl ?_; intro K hK sk2 nk2; go_frame; refine hK _ _ ?_; clear hK K))))
        simp only [fadd_rawl, fadd_rawr, fsub_rawl, fsub_rawr, fmul_rawl, fmul_rawr, fdiv_rawl, fdiv_rawr]
        have hb : Below v7.heap.size v7 ((((((v7.drewN ni1).drewN ni2).drewN ni3).drewN nj1).drewN nk1).drewN nk2) := below_trd (below_trd (below_trd (below_trd (below_trd (below_trd (Below.refl _ _) _) _) _) _) _) _
        have H8 := Lib.hid (H7.out.step hb)
        clear H7
        generalize (((((v7.drewN ni1).drewN ni2).drewN ni3).drewN nj1).drewN nk1).drewN nk2 = v8 at *
        clear hb
        obtain ⟨fi, h_⟩ : ∃ x, x = fdiv (fadd (fmul (fsub dl dk) (fadd dl dk)) (fmul ek (fsub (fdiv d0 (fadd f0 (sgnW g0 f0))) ek))) dl := ⟨_, rfl⟩
        rw [← h_]
        have Efi := Lib.hid h_
        clear h_
        have HFI := Lib.hid (show fi = sgI V.d V.e l k ∧ dl = V.d.getD l 0 ∧ fi < 18446744073709551616 ∧ dl < 18446744073709551616 by
          refine ⟨?_, HV.out.2.1, Efi.out ▸ fdiv_lt _ _, HVL.out⟩
          obtain ⟨q1, q2, q3, q4, q5⟩ := HV.out
          have e : k - 1 = k0 := by have := HQ.out; omega
          have e2 : sgP V.d V.e k = f0 := by rw [Ef0.out]; unfold sgP; rw [e, ← q1, ← q3, ← q4, ← q5]
          rw [Efi.out]; unfold sgI; rw [e2, e, ← q1, ← q2, ← q3, ← q5, ← Eg0.out])
        clear Efi Ef0 HG0 HF0 Eg0 HV hke hln hkn0 hke0 HW9 HVL
        go_upto_block 12 with (fail)
        refine sweep_part_q _ _ _ _ _ _ _ _ _ _ _ _ _ _ _ _ _ _ _ _ _ _ _ _ _ _ _ _ _ _ _ _ _ _ _ _ _ _ _ _ _ _ _ _ _ _ _ _ _ _ _ _ _ _ _ _ _ _ _ _ _ _ _ _ _ _ _ _ _ _ _ _ _ _ _ _ _ _ _ _ _ _ _ _ _ _ _ _ _ _ _ _ _ _ _ _ _ _ _ _ _ _ _ _ _ _ _ _ _ _ _ _ _ _ _ _ _ _ _ _ _ _ _ _ _ _ _ _ _ _ _ _ _ _ _ _ _ _ _ _ _ _ _ _ _ _ _ _ _ _ _ _ _ _ _ _ _ _ _ _ _ _ _ _ _ _ _ _ _ _ _ _ _ _ _ _ _ _ _ _ _ _ _ _ _ _ _ _ _ _ _ _ _ _ _ _ _ _ _ _ _ _ _ _ _ _ _ _ _ _ _ _ _ _ _ _ _ _ _ _ _ _ _ _ _ _ _ _ _ _ _ _ _ _ _ _ _ _ _ _ _ _ _ _ _ _ _ _ _ _ _ _ _ _ _ _ _ _ _ _ _ _ _ _ _ _ _ _ _ _ _ _ _ _ _ _ _ _ _ _ _ _ _ _ _ _ _ _ _ _ _ _ _ _ _ _ _ _ _ _ _ _ _ _ _ _ _ _ _ _ _ _ _ _ _ _ _ _ _ _ _ _ _ _ _ _ _ _ _ _ _ _ _ _ _ _ _ _ _ _ _ _ _ _ _ _ _ _ _ _ _ _ _ _ _ _ _ _ _ _ _ _ _ _ _ _ _ _ _ _ _ _ _ _ _ _ _ _ _ _ _ _ _ _ _ _ _ _ _ _ _ _ _ _ _ _ _ _ _ _ _ _ _ _ _ _ _ _ _ _ _ p V dl sdl fi sk2 l k w0 v8 H8.out HFI.out.2.2.2 HFI.out.2.2.1 HQ.out.1 HK.out.1 _ ?_
        intro u32 u33 u34 u35 u36 u37 u38 u40 u41 u42 u43 u44 u45 u290 u291 u292 u293 u294 u295 u296 u297 u298 u299 u300 u301 u302 u303 u304 u305 u306 u307 u308 u309 u310 u311 u312 u313 u314 u315 u316 u317 u318 u319 u320 u321 u322 u323 u324 u325 u326 u327 u328 u329 u330 u331 u332 u333 u334 u335 u336 u337 u338 u339 u340 u341 u342 u343 u344 u345 u346 u347 u348 u349 u350 u351 u352 u353 u354 u355 u356 u357 u358 u359 u360 u361 u362 u363 u364 u365 u366 u367 u368 u369 u370 u371 u372 u373 u374 u375 u376 u377 u378 u379 u380 u381 u382 u383 u384 u385 u386 u387 u388 u389 u390 u391 u392 u393 u394 u395 z1 hcut
        obtain ⟨y, sf, sa, hy, rfl, rfl, hyf, hya, hG⟩ := hcut
        have H9 := Lib.hid hG
        have HY := Lib.hid (show y = sgL p.n p.ru p.rv l (k - l) (sg0 V l k) ∧ y.f < 18446744073709551616 ∧ y.a < 18446744073709551616 from ⟨by rw [hy]; unfold sg0; rw [← HFI.out.1, ← HFI.out.2.1], hyf, hya⟩)
        clear hG hy hyf hya H8
        have hln := HQ.out.2.2.2.2.1
        have hlne : l < p.ne := by have := HQ.out; omega
        have hke := HQ.out.2.2.2.2.2
        obtain ⟨r1, c1⟩ := H9.out.atE HK.out.2.2.2.1 hlne
        have le := (H9.out.ltD HK.out.2.2.2.1).2
        have fe := H9.out.frE HK.out.2.2.2.1
        go_upto_region 99 with (fail)
        clear c1 le fe
        obtain ⟨z2, hz⟩ : ∃ x, x = z1.setCell ⟨p.be, l, none⟩ (.float .f64 0) := ⟨_, rfl⟩
        rw [← hz]
        have HA := Lib.hid (show RGk w0 z2 p _ from by have h := H9.out.setE HK.out.2.2.2.1 l 0 0 (by decide); rw [show (raw 0 0) = 0 from raw_of_not (by kernel_rfl) 0, ← hz] at h; exact h)
        clear hz H9
        obtain ⟨r1, c1⟩ := HA.out.atE HK.out.2.2.2.1 hke
        have le := (HA.out.ltD HK.out.2.2.2.1).2
        have fe := HA.out.frE HK.out.2.2.2.1
        go_upto_region 100 with (fail)
        clear c1 le fe
        obtain ⟨z3, hz⟩ : ∃ x, x = z2.setCell ⟨p.be, k, none⟩ (.float .f64 (raw y.f sf)) := ⟨_, rfl⟩
        rw [← hz]
        have HB := Lib.hid (show RGk w0 z3 p _ from hz ▸ HA.out.setE HK.out.2.2.2.1 k y.f sf HY.out.2.1)
        clear hz HA
        obtain ⟨r1, c1⟩ := HB.out.atD hkn
        have le := (HB.out.ltD HK.out.2.2.2.1).1
        have fe := HB.out.frD HK.out.2.2.2.1
        have hJ := HJ.out
        have hKJ := HKJ.out
        go_wp2_with fail
        go_meet
        case rel =>
          have HC := HB.out.setD HK.out.2.2.2.1 k y.a sa HY.out.2.2
          exact ⟨HNE.out, HM3.out, by go_num, by go_num, by unfold sweepG sgE; rw [← HY.out.1]; exact HC⟩
set_option maxRecDepth 1000000 in
theorem round_part_q (c0 c1 c2 c3 c4 c5 c6 c9 c10 c11 c17 c18 c22 c23 c24 c25 c26 c27 c28 c29 c30 c31 c32 c33 c34 c35 c36 c37 c38 c39 c40 c41 c42 c43 c44 c45 c46 c47 c48 c49 c50 c51 c52 c53 c54 c55 c56 c57 c58 c59 c60 c61 c62 c63 c64 c65 c66 c67 c68 c69 c70 c71 c72 c73 c74 c75 c76 c77 c78 c79 c80 c81 c82 c83 c84 c85 c86 c87 c88 c89 c90 c91 c92 c93 c94 c95 c96 c97 c98 c99 c100 c101 c102 c103 c104 c105 c106 c107 c108 c109 c110 c111 c112 c113 c114 c115 c116 c117 c118 c119 c120 c121 c122 c123 c124 c125 c126 c127 c128 c129 c130 c131 c132 c133 c134 c135 c136 c137 c138 c139 c140 c141 c142 c143 c144 c145 c146 c147 c148 c149 c150 c151 c152 c153 c154 c155 c156 c157 c158 c159 c160 c161 c162 c163 c164 c165 c166 c167 c168 c169 c170 c171 c172 c173 c174 c175 c176 c177 c178 c179 c180 c181 c182 c183 c184 c185 c186 c187 c188 c189 c190 c191 c192 c193 c194 c195 c196 c197 c198 c199 c200 c201 c202 c203 c204 c205 c206 c207 c208 c209 c210 c211 c212 c213 c214 c215 c216 c217 c218 c219 c220 c221 c222 c223 c224 c225 c226 c227 c228 c229 c230 c231 c232 c233 c234 c235 c236 c237 c238 c239 c240 c241 c242 c243 c244 c245 c246 c247 c248 c249 c250 c251 c252 c253 c254 c255 c256 c257 c258 c259 c260 c261 c262 c263 c264 c265 c266 c267 c268 c269 c270 c271 c272 c273 c274 c275 c276 c277 c278 c279 c280 c281 c282 c283 c284 c285 c286 c287 c288 c289 c290 c291 c292 c293 c294 c295 c296 c297 c298 c299 c300 c301 c302 c303 c304 c305 c306 c307 c308 c309 c310 c311 c312 c313 c314 c315 c316 c317 c318 c319 c320 c321 c322 c323 c324 c325 c326 c327 c328 c329 c330 c331 c332 c333 c334 c335 c336 c337 c338 c339 c340 c341 c342 c343 c344 c345 c346 c347 c348 c349 c350 c351 c352 c353 c354 c355 c356 c357 c358 c359 c360 c361 c362 c363 c364 c365 c366 c367 c368 c369 c370 c371 c372 c373 c374 c375 c376 c377 c378 c379 c380 c381 c382 c383 c384 c385 c386 c387 c388 c389 c390 c391 c392 c393 c394 c395 c396 c397 c398 c399 c400 c401 c402 c403 c404 c405 c406 c407 c408 c409 c410 c411 c412 c413 c414 c415 c416 c417 c418 c419 c420 : Value) (p : RgP) (T : GkS) (big sb s k m : Nat) (w0 w : World) (hG : RGk w0 w p T) (hk : k < p.n) (hm : m ≤ 30) (hs : s ≤ 20000) (Q : Exit → Act → World → Prop)
    (hQ : ∀ (u6 u9 u10 u19 u21 u22 u23 u24 u25 u26 u27 u28 u29 u30 u31 u32 u33 u34 u35 u36 u37 u38 u39 u40 u41 u42 u43 u44 u45 u86 u87 u88 u89 u90 u91 u92 u93 u94 u95 u96 u97 u98 u99 u100 u101 u102 u103 u104 u105 u106 u107 u108 u109 u110 u111 u112 u113 u114 u115 u116 u117 u118 u119 u120 u121 u122 u123 u124 u125 u126 u127 u128 u129 u130 u131 u132 u133 u134 u135 u136 u137 u138 u139 u140 u141 u142 u143 u144 u145 u146 u147 u148 u149 u150 u151 u152 u153 u154 u155 u156 u157 u158 u159 u160 u161 u162 u163 u164 u165 u166 u167 u168 u169 u170 u171 u172 u173 u174 u175 u176 u177 u178 u179 u180 u181 u182 u183 u184 u185 u186 u187 u188 u189 u190 u191 u192 u193 u194 u195 u196 u197 u198 u199 u200 u201 u202 u203 u204 u205 u206 u207 u208 u209 u210 u211 u212 u213 u214 u215 u216 u217 u218 u219 u220 u221 u222 u223 u224 u225 u226 u227 u228 u229 u230 u231 u232 u233 u234 u235 u236 u237 u238 u239 u240 u241 u242 u243 u244 u245 u246 u247 u248 u249 u250 u251 u252 u253 u254 u255 u256 u257 u258 u259 u260 u261 u262 u263 u264 u265 u266 u267 u268 u269 u270 u271 u272 u273 u274 u275 u276 u277 u278 u279 u280 u281 u282 u283 u284 u285 u286 u287 u288 u289 u290 u291 u292 u293 u294 u295 u296 u297 u298 u299 u300 u301 u302 u303 u304 u305 u306 u307 u308 u309 u310 u311 u312 u313 u314 u315 u316 u317 u318 u319 u320 u321 u322 u323 u324 u325 u326 u327 u328 u329 u330 u331 u332 u333 u334 u335 u336 u337 u338 u339 u340 u341 u342 u343 u344 u345 u346 u347 u348 u349 u350 u351 u352 u353 u354 u355 u356 u357 u358 u359 u360 u361 u362 u363 u364 u365 u366 u367 u368 u369 u370 u371 u372 u373 u374 u375 u376 u377 u378 u379 u380 u381 u382 u383 u384 u385 u386 u387 u388 u389 u390 u391 u392 u393 u394 u395 u396 u397 u398 u399 u400 u401 u402 u403 u404 u405 u406 : Value) (w' : World), ((startG T.d T.e big k).1 ≠ k ∧ m ≠ 30 ∧ u19 = .int .i64 (s + 1 : Nat) ∧ u21 = .int .i64 (m + 1 : Nat) ∧ RGk w0 w' p (sweepG p.n p.ru p.rv (preG p.n p.ru big k T) (startG T.d T.e big k).1 k)) → Q .normal { tmps := #[c0, c1, c2, c3, c4, c5, u6, .pointer (some ⟨w0.heap.size + 1 + 1 + 1, 0, none⟩), .pointer (some ⟨w0.heap.size + 1 + 1 + 1 + 1, 0, none⟩), u9, u10, c11, .pointer (some ⟨p.Y, 0, none⟩), .pointer (some ⟨p.Z, 0, none⟩), .slice (some ⟨p.bd, 0, none⟩) p.n p.dc, .slice (some ⟨p.be, 0, none⟩) p.ne p.ec, .float .f64 (raw big sb), c17, c18, u19, .int .i64 (k : Nat), u21, u22, u23, u24, u25, u26, u27, u28, u29, u30, u31, u32, u33, u34, u35, u36, u37, u38, u39, u40, u41, u42, u43, u44, u45, c46, c47, c48, c49, c50, c51, c52, c53, c54, c55, c56, c57, c58, c59, c60, c61, c62, c63, c64, c65, c66, c67, c68, c69, c70, c71, c72, c73, c74, c75, c76, c77, c78, c79, c80, c81, c82, c83, c84, c85, u86, u87, u88, u89, u90, u91, u92, u93, u94, u95, u96, u97, u98, u99, u100, u101, u102, u103, u104, u105, u106, u107, u108, u109, u110, u111, u112, u113, u114, u115, u116, u117, u118, u119, u120, u121, u122, u123, u124, u125, u126, u127, u128, u129, u130, u131, u132, u133, u134, u135, u136, u137, u138, u139, u140, u141, u142, u143, u144, u145, u146, u147, u148, u149, u150, u151, u152, u153, u154, u155, u156, u157, u158, u159, u160, u161, u162, u163, u164, u165, u166, u167, u168, u169, u170, u171, u172, u173, u174, u175, u176, u177, u178, u179, u180, u181, u182, u183, u184, u185, u186, u187, u188, u189, u190, u191, u192, u193, u194, u195, u196, u197, u198, u199, u200, u201, u202, u203, u204, u205, u206, u207, u208, u209, u210, u211, u212, u213, u214, u215, u216, u217, u218, u219, u220, u221, u222, u223, u224, u225, u226, u227, u228, u229, u230, u231, u232, u233, u234, u235, u236, u237, u238, u239, u240, u241, u242, u243, u244, u245, u246, u247, u248, u249, u250, u251, u252, u253, u254, u255, u256, u257, u258, u259, u260, u261, u262, u263, u264, u265, u266, u267, u268, u269, u270, u271, u272, u273, u274, u275, u276, u277, u278, u279, u280, u281, u282, u283, u284, u285, u286, u287, u288, u289, u290, u291, u292, u293, u294, u295, u296, u297, u298, u299, u300, u301, u302, u303, u304, u305, u306, u307, u308, u309, u310, u311, u312, u313, u314, u315, u316, u317, u318, u319, u320, u321, u322, u323, u324, u325, u326, u327, u328, u329, u330, u331, u332, u333, u334, u335, u336, u337, u338, u339, u340, u341, u342, u343, u344, u345, u346, u347, u348, u349, u350, u351, u352, u353, u354, u355, u356, u357, u358, u359, u360, u361, u362, u363, u364, u365, u366, u367, u368, u369, u370, u371, u372, u373, u374, u375, u376, u377, u378, u379, u380, u381, u382, u383, u384, u385, u386, u387, u388, u389, u390, u391, u392, u393, u394, u395, u396, u397, u398, u399, u400, u401, u402, u403, u404, u405, u406, c407, c408, c409, c410, c411, c412, c413, c414, c415, c416, c417, c418, c419, c420], defers := [] } w')
    (hX : ∀ (u6 u9 u10 u19 u21 u22 u23 u24 u25 u26 u27 u28 u29 u30 u31 u32 u33 u34 u35 u36 u37 u38 u39 u40 u41 u42 u43 u44 u45 u86 u87 u88 u89 u90 u91 u92 u93 u94 u95 u96 u97 u98 u99 u100 u101 u102 u103 u104 u105 u106 u107 u108 u109 u110 u111 u112 u113 u114 u115 u116 u117 u118 u119 u120 u121 u122 u123 u124 u125 u126 u127 u128 u129 u130 u131 u132 u133 u134 u135 u136 u137 u138 u139 u140 u141 u142 u143 u144 u145 u146 u147 u148 u149 u150 u151 u152 u153 u154 u155 u156 u157 u158 u159 u160 u161 u162 u163 u164 u165 u166 u167 u168 u169 u170 u171 u172 u173 u174 u175 u176 u177 u178 u179 u180 u181 u182 u183 u184 u185 u186 u187 u188 u189 u190 u191 u192 u193 u194 u195 u196 u197 u198 u199 u200 u201 u202 u203 u204 u205 u206 u207 u208 u209 u210 u211 u212 u213 u214 u215 u216 u217 u218 u219 u220 u221 u222 u223 u224 u225 u226 u227 u228 u229 u230 u231 u232 u233 u234 u235 u236 u237 u238 u239 u240 u241 u242 u243 u244 u245 u246 u247 u248 u249 u250 u251 u252 u253 u254 u255 u256 u257 u258 u259 u260 u261 u262 u263 u264 u265 u266 u267 u268 u269 u270 u271 u272 u273 u274 u275 u276 u277 u278 u279 u280 u281 u282 u283 u284 u285 u286 u287 u288 u289 u290 u291 u292 u293 u294 u295 u296 u297 u298 u299 u300 u301 u302 u303 u304 u305 u306 u307 u308 u309 u310 u311 u312 u313 u314 u315 u316 u317 u318 u319 u320 u321 u322 u323 u324 u325 u326 u327 u328 u329 u330 u331 u332 u333 u334 u335 u336 u337 u338 u339 u340 u341 u342 u343 u344 u345 u346 u347 u348 u349 u350 u351 u352 u353 u354 u355 u356 u357 u358 u359 u360 u361 u362 u363 u364 u365 u366 u367 u368 u369 u370 u371 u372 u373 u374 u375 u376 u377 u378 u379 u380 u381 u382 u383 u384 u385 u386 u387 u388 u389 u390 u391 u392 u393 u394 u395 u396 u397 u398 u399 u400 u401 u402 u403 u404 u405 u406 : Value) (w' : World), ((startG T.d T.e big k).1 = k ∧ u19 = .int .i64 (s : Nat) ∧ u21 = .int .i64 (m : Nat) ∧ RGk w0 w' p (finG p.n p.rv (preG p.n p.ru big k T) k)) → Q (.exit 4) { tmps := #[c0, c1, c2, c3, c4, c5, u6, .pointer (some ⟨w0.heap.size + 1 + 1 + 1, 0, none⟩), .pointer (some ⟨w0.heap.size + 1 + 1 + 1 + 1, 0, none⟩), u9, u10, c11, .pointer (some ⟨p.Y, 0, none⟩), .pointer (some ⟨p.Z, 0, none⟩), .slice (some ⟨p.bd, 0, none⟩) p.n p.dc, .slice (some ⟨p.be, 0, none⟩) p.ne p.ec, .float .f64 (raw big sb), c17, c18, u19, .int .i64 (k : Nat), u21, u22, u23, u24, u25, u26, u27, u28, u29, u30, u31, u32, u33, u34, u35, u36, u37, u38, u39, u40, u41, u42, u43, u44, u45, c46, c47, c48, c49, c50, c51, c52, c53, c54, c55, c56, c57, c58, c59, c60, c61, c62, c63, c64, c65, c66, c67, c68, c69, c70, c71, c72, c73, c74, c75, c76, c77, c78, c79, c80, c81, c82, c83, c84, c85, u86, u87, u88, u89, u90, u91, u92, u93, u94, u95, u96, u97, u98, u99, u100, u101, u102, u103, u104, u105, u106, u107, u108, u109, u110, u111, u112, u113, u114, u115, u116, u117, u118, u119, u120, u121, u122, u123, u124, u125, u126, u127, u128, u129, u130, u131, u132, u133, u134, u135, u136, u137, u138, u139, u140, u141, u142, u143, u144, u145, u146, u147, u148, u149, u150, u151, u152, u153, u154, u155, u156, u157, u158, u159, u160, u161, u162, u163, u164, u165, u166, u167, u168, u169, u170, u171, u172, u173, u174, u175, u176, u177, u178, u179, u180, u181, u182, u183, u184, u185, u186, u187, u188, u189, u190, u191, u192, u193, u194, u195, u196, u197, u198, u199, u200, u201, u202, u203, u204, u205, u206, u207, u208, u209, u210, u211, u212, u213, u214, u215, u216, u217, u218, u219, u220, u221, u222, u223, u224, u225, u226, u227, u228, u229, u230, u231, u232, u233, u234, u235, u236, u237, u238, u239, u240, u241, u242, u243, u244, u245, u246, u247, u248, u249, u250, u251, u252, u253, u254, u255, u256, u257, u258, u259, u260, u261, u262, u263, u264, u265, u266, u267, u268, u269, u270, u271, u272, u273, u274, u275, u276, u277, u278, u279, u280, u281, u282, u283, u284, u285, u286, u287, u288, u289, u290, u291, u292, u293, u294, u295, u296, u297, u298, u299, u300, u301, u302, u303, u304, u305, u306, u307, u308, u309, u310, u311, u312, u313, u314, u315, u316, u317, u318, u319, u320, u321, u322, u323, u324, u325, u326, u327, u328, u329, u330, u331, u332, u333, u334, u335, u336, u337, u338, u339, u340, u341, u342, u343, u344, u345, u346, u347, u348, u349, u350, u351, u352, u353, u354, u355, u356, u357, u358, u359, u360, u361, u362, u363, u364, u365, u366, u367, u368, u369, u370, u371, u372, u373, u374, u375, u376, u377, u378, u379, u380, u381, u382, u383, u384, u385, u386, u387, u388, u389, u390, u391, u392, u393, u394, u395, u396, u397, u398, u399, u400, u401, u402, u403, u404, u405, u406, c407, c408, c409, c410, c411, c412, c413, c414, c415, c416, c417, c418, c419, c420], defers := [] } w')
    (hR : ∀ (u6 u9 u10 u19 u21 u22 u23 u24 u25 u26 u27 u28 u29 u30 u31 u32 u33 u34 u35 u36 u37 u38 u39 u40 u41 u42 u43 u44 u45 u86 u87 u88 u89 u90 u91 u92 u93 u94 u95 u96 u97 u98 u99 u100 u101 u102 u103 u104 u105 u106 u107 u108 u109 u110 u111 u112 u113 u114 u115 u116 u117 u118 u119 u120 u121 u122 u123 u124 u125 u126 u127 u128 u129 u130 u131 u132 u133 u134 u135 u136 u137 u138 u139 u140 u141 u142 u143 u144 u145 u146 u147 u148 u149 u150 u151 u152 u153 u154 u155 u156 u157 u158 u159 u160 u161 u162 u163 u164 u165 u166 u167 u168 u169 u170 u171 u172 u173 u174 u175 u176 u177 u178 u179 u180 u181 u182 u183 u184 u185 u186 u187 u188 u189 u190 u191 u192 u193 u194 u195 u196 u197 u198 u199 u200 u201 u202 u203 u204 u205 u206 u207 u208 u209 u210 u211 u212 u213 u214 u215 u216 u217 u218 u219 u220 u221 u222 u223 u224 u225 u226 u227 u228 u229 u230 u231 u232 u233 u234 u235 u236 u237 u238 u239 u240 u241 u242 u243 u244 u245 u246 u247 u248 u249 u250 u251 u252 u253 u254 u255 u256 u257 u258 u259 u260 u261 u262 u263 u264 u265 u266 u267 u268 u269 u270 u271 u272 u273 u274 u275 u276 u277 u278 u279 u280 u281 u282 u283 u284 u285 u286 u287 u288 u289 u290 u291 u292 u293 u294 u295 u296 u297 u298 u299 u300 u301 u302 u303 u304 u305 u306 u307 u308 u309 u310 u311 u312 u313 u314 u315 u316 u317 u318 u319 u320 u321 u322 u323 u324 u325 u326 u327 u328 u329 u330 u331 u332 u333 u334 u335 u336 u337 u338 u339 u340 u341 u342 u343 u344 u345 u346 u347 u348 u349 u350 u351 u352 u353 u354 u355 u356 u357 u358 u359 u360 u361 u362 u363 u364 u365 u366 u367 u368 u369 u370 u371 u372 u373 u374 u375 u376 u377 u378 u379 u380 u381 u382 u383 u384 u385 u386 u387 u388 u389 u390 u391 u392 u393 u394 u395 u396 u397 u398 u399 u400 u401 u402 u403 u404 u405 u406 : Value) (w' : World), ((startG T.d T.e big k).1 ≠ k ∧ m = 30 ∧ u6 = .slice none 0 0 ∧ u9 = .int .i64 (s : Nat) ∧ u10 = .bool false ∧ Box w' (w0.heap.size + 1 + 1 + 1) [.int .i64 0, .int .i64 0, .slice none 0 0] ∧ Box w' (w0.heap.size + 1 + 1 + 1 + 1) [.int .i64 0, .int .i64 0, .slice none 0 0] ∧ Below w0.heap.size w0 w') → Q .ret { tmps := #[c0, c1, c2, c3, c4, c5, u6, .pointer (some ⟨w0.heap.size + 1 + 1 + 1, 0, none⟩), .pointer (some ⟨w0.heap.size + 1 + 1 + 1 + 1, 0, none⟩), u9, u10, c11, .pointer (some ⟨p.Y, 0, none⟩), .pointer (some ⟨p.Z, 0, none⟩), .slice (some ⟨p.bd, 0, none⟩) p.n p.dc, .slice (some ⟨p.be, 0, none⟩) p.ne p.ec, .float .f64 (raw big sb), c17, c18, u19, .int .i64 (k : Nat), u21, u22, u23, u24, u25, u26, u27, u28, u29, u30, u31, u32, u33, u34, u35, u36, u37, u38, u39, u40, u41, u42, u43, u44, u45, c46, c47, c48, c49, c50, c51, c52, c53, c54, c55, c56, c57, c58, c59, c60, c61, c62, c63, c64, c65, c66, c67, c68, c69, c70, c71, c72, c73, c74, c75, c76, c77, c78, c79, c80, c81, c82, c83, c84, c85, u86, u87, u88, u89, u90, u91, u92, u93, u94, u95, u96, u97, u98, u99, u100, u101, u102, u103, u104, u105, u106, u107, u108, u109, u110, u111, u112, u113, u114, u115, u116, u117, u118, u119, u120, u121, u122, u123, u124, u125, u126, u127, u128, u129, u130, u131, u132, u133, u134, u135, u136, u137, u138, u139, u140, u141, u142, u143, u144, u145, u146, u147, u148, u149, u150, u151, u152, u153, u154, u155, u156, u157, u158, u159, u160, u161, u162, u163, u164, u165, u166, u167, u168, u169, u170, u171, u172, u173, u174, u175, u176, u177, u178, u179, u180, u181, u182, u183, u184, u185, u186, u187, u188, u189, u190, u191, u192, u193, u194, u195, u196, u197, u198, u199, u200, u201, u202, u203, u204, u205, u206, u207, u208, u209, u210, u211, u212, u213, u214, u215, u216, u217, u218, u219, u220, u221, u222, u223, u224, u225, u226, u227, u228, u229, u230, u231, u232, u233, u234, u235, u236, u237, u238, u239, u240, u241, u242, u243, u244, u245, u246, u247, u248, u249, u250, u251, u252, u253, u254, u255, u256, u257, u258, u259, u260, u261, u262, u263, u264, u265, u266, u267, u268, u269, u270, u271, u272, u273, u274, u275, u276, u277, u278, u279, u280, u281, u282, u283, u284, u285, u286, u287, u288, u289, u290, u291, u292, u293, u294, u295, u296, u297, u298, u299, u300, u301, u302, u303, u304, u305, u306, u307, u308, u309, u310, u311, u312, u313, u314, u315, u316, u317, u318, u319, u320, u321, u322, u323, u324, u325, u326, u327, u328, u329, u330, u331, u332, u333, u334, u335, u336, u337, u338, u339, u340, u341, u342, u343, u344, u345, u346, u347, u348, u349, u350, u351, u352, u353, u354, u355, u356, u357, u358, u359, u360, u361, u362, u363, u364, u365, u366, u367, u368, u369, u370, u371, u372, u373, u374, u375, u376, u377, u378, u379, u380, u381, u382, u383, u384, u385, u386, u387, u388, u389, u390, u391, u392, u393, u394, u395, u396, u397, u398, u399, u400, u401, u402, u403, u404, u405, u406, c407, c408, c409, c410, c411, c412, c413, c414, c415, c416, c417, c418, c419, c420], defers := [] } w') :
    Code.wp Try.prog ((findBlock (Try.f19.body.getD .skip) 5).getD .skip) Q { tmps := #[c0, c1, c2, c3, c4, c5, c6, .pointer (some ⟨w0.heap.size + 1 + 1 + 1, 0, none⟩), .pointer (some ⟨w0.heap.size + 1 + 1 + 1 + 1, 0, none⟩), c9, c10, c11, .pointer (some ⟨p.Y, 0, none⟩), .pointer (some ⟨p.Z, 0, none⟩), .slice (some ⟨p.bd, 0, none⟩) p.n p.dc, .slice (some ⟨p.be, 0, none⟩) p.ne p.ec, .float .f64 (raw big sb), c17, c18, .int .i64 (s : Nat), .int .i64 (k : Nat), .int .i64 (m : Nat), c22, c23, c24, c25, c26, c27, c28, c29, c30, c31, c32, c33, c34, c35, c36, c37, c38, c39, c40, c41, c42, c43, c44, c45, c46, c47, c48, c49, c50, c51, c52, c53, c54, c55, c56, c57, c58, c59, c60, c61, c62, c63, c64, c65, c66, c67, c68, c69, c70, c71, c72, c73, c74, c75, c76, c77, c78, c79, c80, c81, c82, c83, c84, c85, c86, c87, c88, c89, c90, c91, c92, c93, c94, c95, c96, c97, c98, c99, c100, c101, c102, c103, c104, c105, c106, c107, c108, c109, c110, c111, c112, c113, c114, c115, c116, c117, c118, c119, c120, c121, c122, c123, c124, c125, c126, c127, c128, c129, c130, c131, c132, c133, c134, c135, c136, c137, c138, c139, c140, c141, c142, c143, c144, c145, c146, c147, c148, c149, c150, c151, c152, c153, c154, c155, c156, c157, c158, c159, c160, c161, c162, c163, c164, c165, c166, c167, c168, c169, c170, c171, c172, c173, c174, c175, c176, c177, c178, c179, c180, c181, c182, c183, c184, c185, c186, c187, c188, c189, c190, c191, c192, c193, c194, c195, c196, c197, c198, c199, c200, c201, c202, c203, c204, c205, c206, c207, c208, c209, c210, c211, c212, c213, c214, c215, c216, c217, c218, c219, c220, c221, c222, c223, c224, c225, c226, c227, c228, c229, c230, c231, c232, c233, c234, c235, c236, c237, c238, c239, c240, c241, c242, c243, c244, c245, c246, c247, c248, c249, c250, c251, c252, c253, c254, c255, c256, c257, c258, c259, c260, c261, c262, c263, c264, c265, c266, c267, c268, c269, c270, c271, c272, c273, c274, c275, c276, c277, c278, c279, c280, c281, c282, c283, c284, c285, c286, c287, c288, c289, c290, c291, c292, c293, c294, c295, c296, c297, c298, c299, c300, c301, c302, c303, c304, c305, c306, c307, c308, c309, c310, c311, c312, c313, c314, c315, c316, c317, c318, c319, c320, c321, c322, c323, c324, c325, c326, c327, c328, c329, c330, c331, c332, c333, c334, c335, c336, c337, c338, c339, c340, c341, c342, c343, c344, c345, c346, c347, c348, c349, c350, c351, c352, c353, c354, c355, c356, c357, c358, c359, c360, c361, c362, c363, c364, c365, c366, c367, c368, c369, c370, c371, c372, c373, c374, c375, c376, c377, c378, c379, c380, c381, c382, c383, c384, c385, c386, c387, c388, c389, c390, c391, c392, c393, c394, c395, c396, c397, c398, c399, c400, c401, c402, c403, c404, c405, c406, c407, c408, c409, c410, c411, c412, c413, c414, c415, c416, c417, c418, c419, c420], defers := [] } w := by
  refine wp_mono (round_part c0 c1 c2 c3 c4 c5 c6 c9 c10 c11 c17 c18 c22 c23 c24 c25 c26 c27 c28 c29 c30 c31 c32 c33 c34 c35 c36 c37 c38 c39 c40 c41 c42 c43 c44 c45 c46 c47 c48 c49 c50 c51 c52 c53 c54 c55 c56 c57 c58 c59 c60 c61 c62 c63 c64 c65 c66 c67 c68 c69 c70 c71 c72 c73 c74 c75 c76 c77 c78 c79 c80 c81 c82 c83 c84 c85 c86 c87 c88 c89 c90 c91 c92 c93 c94 c95 c96 c97 c98 c99 c100 c101 c102 c103 c104 c105 c106 c107 c108 c109 c110 c111 c112 c113 c114 c115 c116 c117 c118 c119 c120 c121 c122 c123 c124 c125 c126 c127 c128 c129 c130 c131 c132 c133 c134 c135 c136 c137 c138 c139 c140 c141 c142 c143 c144 c145 c146 c147 c148 c149 c150 c151 c152 c153 c154 c155 c156 c157 c158 c159 c160 c161 c162 c163 c164 c165 c166 c167 c168 c169 c170 c171 c172 c173 c174 c175 c176 c177 c178 c179 c180 c181 c182 c183 c184 c185 c186 c187 c188 c189 c190 c191 c192 c193 c194 c195 c196 c197 c198 c199 c200 c201 c202 c203 c204 c205 c206 c207 c208 c209 c210 c211 c212 c213 c214 c215 c216 c217 c218 c219 c220 c221 c222 c223 c224 c225 c226 c227 c228 c229 c230 c231 c232 c233 c234 c235 c236 c237 c238 c239 c240 c241 c242 c243 c244 c245 c246 c247 c248 c249 c250 c251 c252 c253 c254 c255 c256 c257 c258 c259 c260 c261 c262 c263 c264 c265 c266 c267 c268 c269 c270 c271 c272 c273 c274 c275 c276 c277 c278 c279 c280 c281 c282 c283 c284 c285 c286 c287 c288 c289 c290 c291 c292 c293 c294 c295 c296 c297 c298 c299 c300 c301 c302 c303 c304 c305 c306 c307 c308 c309 c310 c311 c312 c313 c314 c315 c316 c317 c318 c319 c320 c321 c322 c323 c324 c325 c326 c327 c328 c329 c330 c331 c332 c333 c334 c335 c336 c337 c338 c339 c340 c341 c342 c343 c344 c345 c346 c347 c348 c349 c350 c351 c352 c353 c354 c355 c356 c357 c358 c359 c360 c361 c362 c363 c364 c365 c366 c367 c368 c369 c370 c371 c372 c373 c374 c375 c376 c377 c378 c379 c380 c381 c382 c383 c384 c385 c386 c387 c388 c389 c390 c391 c392 c393 c394 c395 c396 c397 c398 c399 c400 c401 c402 c403 c404 c405 c406 c407 c408 c409 c410 c411 c412 c413 c414 c415 c416 c417 c418 c419 c420 p T big sb s k m w0 w hG hk hm hs (fun a w => Q .normal a w) (fun a w => Q .normal a w) Q ?_ (fun _ _ h => h) ?_ ?_) (fun e a w h => by cases e <;> exact h)
  · intro a' w' h
    obtain ⟨u6, h⟩ := h
    obtain ⟨u9, h⟩ := h
    obtain ⟨u10, h⟩ := h
    obtain ⟨u19, h⟩ := h
    obtain ⟨u21, h⟩ := h
    obtain ⟨u22, h⟩ := h
    obtain ⟨u23, h⟩ := h
    obtain ⟨u24, h⟩ := h
    obtain ⟨u25, h⟩ := h
    obtain ⟨u26, h⟩ := h
    obtain ⟨u27, h⟩ := h
    obtain ⟨u28, h⟩ := h
    obtain ⟨u29, h⟩ := h
    obtain ⟨u30, h⟩ := h
    obtain ⟨u31, h⟩ := h
    obtain ⟨u32, h⟩ := h
    obtain ⟨u33, h⟩ := h
    obtain ⟨u34, h⟩ := h
    obtain ⟨u35, h⟩ := h
    obtain ⟨u36, h⟩ := h
    obtain ⟨u37, h⟩ := h
    obtain ⟨u38, h⟩ := h
    obtain ⟨u39, h⟩ := h
    obtain ⟨u40, h⟩ := h
    obtain ⟨u41, h⟩ := h
    obtain ⟨u42, h⟩ := h
    obtain ⟨u43, h⟩ := h
    obtain ⟨u44, h⟩ := h
    obtain ⟨u45, h⟩ := h
    obtain ⟨u86, h⟩ := h
    obtain ⟨u87, h⟩ := h
    obtain ⟨u88, h⟩ := h
    obtain ⟨u89, h⟩ := h
    obtain ⟨u90, h⟩ := h
    obtain ⟨u91, h⟩ := h
    obtain ⟨u92, h⟩ := h
    obtain ⟨u93, h⟩ := h
    obtain ⟨u94, h⟩ := h
    obtain ⟨u95, h⟩ := h
    obtain ⟨u96, h⟩ := h
    obtain ⟨u97, h⟩ := h
    obtain ⟨u98, h⟩ := h
    obtain ⟨u99, h⟩ := h
    obtain ⟨u100, h⟩ := h
    obtain ⟨u101, h⟩ := h
    obtain ⟨u102, h⟩ := h
    obtain ⟨u103, h⟩ := h
    obtain ⟨u104, h⟩ := h
    obtain ⟨u105, h⟩ := h
    obtain ⟨u106, h⟩ := h
    obtain ⟨u107, h⟩ := h
    obtain ⟨u108, h⟩ := h
    obtain ⟨u109, h⟩ := h
    obtain ⟨u110, h⟩ := h
    obtain ⟨u111, h⟩ := h
    obtain ⟨u112, h⟩ := h
    obtain ⟨u113, h⟩ := h
    obtain ⟨u114, h⟩ := h
    obtain ⟨u115, h⟩ := h
    obtain ⟨u116, h⟩ := h
    obtain ⟨u117, h⟩ := h
    obtain ⟨u118, h⟩ := h
    obtain ⟨u119, h⟩ := h
    obtain ⟨u120, h⟩ := h
    obtain ⟨u121, h⟩ := h
    obtain ⟨u122, h⟩ := h
    obtain ⟨u123, h⟩ := h
    obtain ⟨u124, h⟩ := h
    obtain ⟨u125, h⟩ := h
    obtain ⟨u126, h⟩ := h
    obtain ⟨u127, h⟩ := h
    obtain ⟨u128, h⟩ := h
    obtain ⟨u129, h⟩ := h
    obtain ⟨u130, h⟩ := h
    obtain ⟨u131, h⟩ := h
    obtain ⟨u132, h⟩ := h
    obtain ⟨u133, h⟩ := h
    obtain ⟨u134, h⟩ := h
    obtain ⟨u135, h⟩ := h
    obtain ⟨u136, h⟩ := h
    obtain ⟨u137, h⟩ := h
    obtain ⟨u138, h⟩ := h
    obtain ⟨u139, h⟩ := h
    obtain ⟨u140, h⟩ := h
    obtain ⟨u141, h⟩ := h
    obtain ⟨u142, h⟩ := h
    obtain ⟨u143, h⟩ := h
    obtain ⟨u144, h⟩ := h
    obtain ⟨u145, h⟩ := h
    obtain ⟨u146, h⟩ := h
    obtain ⟨u147, h⟩ := h
    obtain ⟨u148, h⟩ := h
    obtain ⟨u149, h⟩ := h
    obtain ⟨u150, h⟩ := h
    obtain ⟨u151, h⟩ := h
    obtain ⟨u152, h⟩ := h
    obtain ⟨u153, h⟩ := h
    obtain ⟨u154, h⟩ := h
    obtain ⟨u155, h⟩ := h
    obtain ⟨u156, h⟩ := h
    obtain ⟨u157, h⟩ := h
    obtain ⟨u158, h⟩ := h
    obtain ⟨u159, h⟩ := h
    obtain ⟨u160, h⟩ := h
    obtain ⟨u161, h⟩ := h
    obtain ⟨u162, h⟩ := h
    obtain ⟨u163, h⟩ := h
    obtain ⟨u164, h⟩ := h
    obtain ⟨u165, h⟩ := h
    obtain ⟨u166, h⟩ := h
    obtain ⟨u167, h⟩ := h
    obtain ⟨u168, h⟩ := h
    obtain ⟨u169, h⟩ := h
    obtain ⟨u170, h⟩ := h
    obtain ⟨u171, h⟩ := h
    obtain ⟨u172, h⟩ := h
    obtain ⟨u173, h⟩ := h
    obtain ⟨u174, h⟩ := h
    obtain ⟨u175, h⟩ := h
    obtain ⟨u176, h⟩ := h
    obtain ⟨u177, h⟩ := h
    obtain ⟨u178, h⟩ := h
    obtain ⟨u179, h⟩ := h
    obtain ⟨u180, h⟩ := h
    obtain ⟨u181, h⟩ := h
    obtain ⟨u182, h⟩ := h
    obtain ⟨u183, h⟩ := h
    obtain ⟨u184, h⟩ := h
    obtain ⟨u185, h⟩ := h
    obtain ⟨u186, h⟩ := h
    obtain ⟨u187, h⟩ := h
    obtain ⟨u188, h⟩ := h
    obtain ⟨u189, h⟩ := h
    obtain ⟨u190, h⟩ := h
    obtain ⟨u191, h⟩ := h
    obtain ⟨u192, h⟩ := h
    obtain ⟨u193, h⟩ := h
    obtain ⟨u194, h⟩ := h
    obtain ⟨u195, h⟩ := h
    obtain ⟨u196, h⟩ := h
    obtain ⟨u197, h⟩ := h
    obtain ⟨u198, h⟩ := h
    obtain ⟨u199, h⟩ := h
    obtain ⟨u200, h⟩ := h
    obtain ⟨u201, h⟩ := h
    obtain ⟨u202, h⟩ := h
    obtain ⟨u203, h⟩ := h
    obtain ⟨u204, h⟩ := h
    obtain ⟨u205, h⟩ := h
    obtain ⟨u206, h⟩ := h
    obtain ⟨u207, h⟩ := h
    obtain ⟨u208, h⟩ := h
    obtain ⟨u209, h⟩ := h
    obtain ⟨u210, h⟩ := h
    obtain ⟨u211, h⟩ := h
    obtain ⟨u212, h⟩ := h
    obtain ⟨u213, h⟩ := h
    obtain ⟨u214, h⟩ := h
    obtain ⟨u215, h⟩ := h
    obtain ⟨u216, h⟩ := h
    obtain ⟨u217, h⟩ := h
    obtain ⟨u218, h⟩ := h
    obtain ⟨u219, h⟩ := h
    obtain ⟨u220, h⟩ := h
    obtain ⟨u221, h⟩ := h
    obtain ⟨u222, h⟩ := h
    obtain ⟨u223, h⟩ := h
    obtain ⟨u224, h⟩ := h
    obtain ⟨u225, h⟩ := h
    obtain ⟨u226, h⟩ := h
    obtain ⟨u227, h⟩ := h
    obtain ⟨u228, h⟩ := h
    obtain ⟨u229, h⟩ := h
    obtain ⟨u230, h⟩ := h
    obtain ⟨u231, h⟩ := h
    obtain ⟨u232, h⟩ := h
    obtain ⟨u233, h⟩ := h
    obtain ⟨u234, h⟩ := h
    obtain ⟨u235, h⟩ := h
    obtain ⟨u236, h⟩ := h
    obtain ⟨u237, h⟩ := h
    obtain ⟨u238, h⟩ := h
    obtain ⟨u239, h⟩ := h
    obtain ⟨u240, h⟩ := h
    obtain ⟨u241, h⟩ := h
    obtain ⟨u242, h⟩ := h
    obtain ⟨u243, h⟩ := h
    obtain ⟨u244, h⟩ := h
    obtain ⟨u245, h⟩ := h
    obtain ⟨u246, h⟩ := h
    obtain ⟨u247, h⟩ := h
    obtain ⟨u248, h⟩ := h
    obtain ⟨u249, h⟩ := h
    obtain ⟨u250, h⟩ := h
    obtain ⟨u251, h⟩ := h
    obtain ⟨u252, h⟩ := h
    obtain ⟨u253, h⟩ := h
    obtain ⟨u254, h⟩ := h
    obtain ⟨u255, h⟩ := h
    obtain ⟨u256, h⟩ := h
    obtain ⟨u257, h⟩ := h
    obtain ⟨u258, h⟩ := h
    obtain ⟨u259, h⟩ := h
    obtain ⟨u260, h⟩ := h
    obtain ⟨u261, h⟩ := h
    obtain ⟨u262, h⟩ := h
    obtain ⟨u263, h⟩ := h
    obtain ⟨u264, h⟩ := h
    obtain ⟨u265, h⟩ := h
    obtain ⟨u266, h⟩ := h
    obtain ⟨u267, h⟩ := h
    obtain ⟨u268, h⟩ := h
    obtain ⟨u269, h⟩ := h
    obtain ⟨u270, h⟩ := h
    obtain ⟨u271, h⟩ := h
    obtain ⟨u272, h⟩ := h
    obtain ⟨u273, h⟩ := h
    obtain ⟨u274, h⟩ := h
    obtain ⟨u275, h⟩ := h
    obtain ⟨u276, h⟩ := h
    obtain ⟨u277, h⟩ := h
    obtain ⟨u278, h⟩ := h
    obtain ⟨u279, h⟩ := h
    obtain ⟨u280, h⟩ := h
    obtain ⟨u281, h⟩ := h
    obtain ⟨u282, h⟩ := h
    obtain ⟨u283, h⟩ := h
    obtain ⟨u284, h⟩ := h
    obtain ⟨u285, h⟩ := h
    obtain ⟨u286, h⟩ := h
    obtain ⟨u287, h⟩ := h
    obtain ⟨u288, h⟩ := h
    obtain ⟨u289, h⟩ := h
    obtain ⟨u290, h⟩ := h
    obtain ⟨u291, h⟩ := h
    obtain ⟨u292, h⟩ := h
    obtain ⟨u293, h⟩ := h
    obtain ⟨u294, h⟩ := h
    obtain ⟨u295, h⟩ := h
    obtain ⟨u296, h⟩ := h
    obtain ⟨u297, h⟩ := h
    obtain ⟨u298, h⟩ := h
    obtain ⟨u299, h⟩ := h
    obtain ⟨u300, h⟩ := h
    obtain ⟨u301, h⟩ := h
    obtain ⟨u302, h⟩ := h
    obtain ⟨u303, h⟩ := h
    obtain ⟨u304, h⟩ := h
    obtain ⟨u305, h⟩ := h
    obtain ⟨u306, h⟩ := h
    obtain ⟨u307, h⟩ := h
    obtain ⟨u308, h⟩ := h
    obtain ⟨u309, h⟩ := h
    obtain ⟨u310, h⟩ := h
    obtain ⟨u311, h⟩ := h
    obtain ⟨u312, h⟩ := h
    obtain ⟨u313, h⟩ := h
    obtain ⟨u314, h⟩ := h
    obtain ⟨u315, h⟩ := h
    obtain ⟨u316, h⟩ := h
    obtain ⟨u317, h⟩ := h
    obtain ⟨u318, h⟩ := h
    obtain ⟨u319, h⟩ := h
    obtain ⟨u320, h⟩ := h
    obtain ⟨u321, h⟩ := h
    obtain ⟨u322, h⟩ := h
    obtain ⟨u323, h⟩ := h
    obtain ⟨u324, h⟩ := h
    obtain ⟨u325, h⟩ := h
    obtain ⟨u326, h⟩ := h
    obtain ⟨u327, h⟩ := h
    obtain ⟨u328, h⟩ := h
    obtain ⟨u329, h⟩ := h
    obtain ⟨u330, h⟩ := h
    obtain ⟨u331, h⟩ := h
    obtain ⟨u332, h⟩ := h
    obtain ⟨u333, h⟩ := h
    obtain ⟨u334, h⟩ := h
    obtain ⟨u335, h⟩ := h
    obtain ⟨u336, h⟩ := h
    obtain ⟨u337, h⟩ := h
    obtain ⟨u338, h⟩ := h
    obtain ⟨u339, h⟩ := h
    obtain ⟨u340, h⟩ := h
    obtain ⟨u341, h⟩ := h
    obtain ⟨u342, h⟩ := h
    obtain ⟨u343, h⟩ := h
    obtain ⟨u344, h⟩ := h
    obtain ⟨u345, h⟩ := h
    obtain ⟨u346, h⟩ := h
    obtain ⟨u347, h⟩ := h
    obtain ⟨u348, h⟩ := h
    obtain ⟨u349, h⟩ := h
    obtain ⟨u350, h⟩ := h
    obtain ⟨u351, h⟩ := h
    obtain ⟨u352, h⟩ := h
    obtain ⟨u353, h⟩ := h
    obtain ⟨u354, h⟩ := h
    obtain ⟨u355, h⟩ := h
    obtain ⟨u356, h⟩ := h
    obtain ⟨u357, h⟩ := h
    obtain ⟨u358, h⟩ := h
    obtain ⟨u359, h⟩ := h
    obtain ⟨u360, h⟩ := h
    obtain ⟨u361, h⟩ := h
    obtain ⟨u362, h⟩ := h
    obtain ⟨u363, h⟩ := h
    obtain ⟨u364, h⟩ := h
    obtain ⟨u365, h⟩ := h
    obtain ⟨u366, h⟩ := h
    obtain ⟨u367, h⟩ := h
    obtain ⟨u368, h⟩ := h
    obtain ⟨u369, h⟩ := h
    obtain ⟨u370, h⟩ := h
    obtain ⟨u371, h⟩ := h
    obtain ⟨u372, h⟩ := h
    obtain ⟨u373, h⟩ := h
    obtain ⟨u374, h⟩ := h
    obtain ⟨u375, h⟩ := h
    obtain ⟨u376, h⟩ := h
    obtain ⟨u377, h⟩ := h
    obtain ⟨u378, h⟩ := h
    obtain ⟨u379, h⟩ := h
    obtain ⟨u380, h⟩ := h
    obtain ⟨u381, h⟩ := h
    obtain ⟨u382, h⟩ := h
    obtain ⟨u383, h⟩ := h
    obtain ⟨u384, h⟩ := h
    obtain ⟨u385, h⟩ := h
    obtain ⟨u386, h⟩ := h
    obtain ⟨u387, h⟩ := h
    obtain ⟨u388, h⟩ := h
    obtain ⟨u389, h⟩ := h
    obtain ⟨u390, h⟩ := h
    obtain ⟨u391, h⟩ := h
    obtain ⟨u392, h⟩ := h
    obtain ⟨u393, h⟩ := h
    obtain ⟨u394, h⟩ := h
    obtain ⟨u395, h⟩ := h
    obtain ⟨u396, h⟩ := h
    obtain ⟨u397, h⟩ := h
    obtain ⟨u398, h⟩ := h
    obtain ⟨u399, h⟩ := h
    obtain ⟨u400, h⟩ := h
    obtain ⟨u401, h⟩ := h
    obtain ⟨u402, h⟩ := h
    obtain ⟨u403, h⟩ := h
    obtain ⟨u404, h⟩ := h
    obtain ⟨u405, h⟩ := h
    obtain ⟨u406, h⟩ := h
    obtain ⟨hr, rfl⟩ := h
    exact hQ u6 u9 u10 u19 u21 u22 u23 u24 u25 u26 u27 u28 u29 u30 u31 u32 u33 u34 u35 u36 u37 u38 u39 u40 u41 u42 u43 u44 u45 u86 u87 u88 u89 u90 u91 u92 u93 u94 u95 u96 u97 u98 u99 u100 u101 u102 u103 u104 u105 u106 u107 u108 u109 u110 u111 u112 u113 u114 u115 u116 u117 u118 u119 u120 u121 u122 u123 u124 u125 u126 u127 u128 u129 u130 u131 u132 u133 u134 u135 u136 u137 u138 u139 u140 u141 u142 u143 u144 u145 u146 u147 u148 u149 u150 u151 u152 u153 u154 u155 u156 u157 u158 u159 u160 u161 u162 u163 u164 u165 u166 u167 u168 u169 u170 u171 u172 u173 u174 u175 u176 u177 u178 u179 u180 u181 u182 u183 u184 u185 u186 u187 u188 u189 u190 u191 u192 u193 u194 u195 u196 u197 u198 u199 u200 u201 u202 u203 u204 u205 u206 u207 u208 u209 u210 u211 u212 u213 u214 u215 u216 u217 u218 u219 u220 u221 u222 u223 u224 u225 u226 u227 u228 u229 u230 u231 u232 u233 u234 u235 u236 u237 u238 u239 u240 u241 u242 u243 u244 u245 u246 u247 u248 u249 u250 u251 u252 u253 u254 u255 u256 u257 u258 u259 u260 u261 u262 u263 u264 u265 u266 u267 u268 u269 u270 u271 u272 u273 u274 u275 u276 u277 u278 u279 u280 u281 u282 u283 u284 u285 u286 u287 u288 u289 u290 u291 u292 u293 u294 u295 u296 u297 u298 u299 u300 u301 u302 u303 u304 u305 u306 u307 u308 u309 u310 u311 u312 u313 u314 u315 u316 u317 u318 u319 u320 u321 u322 u323 u324 u325 u326 u327 u328 u329 u330 u331 u332 u333 u334 u335 u336 u337 u338 u339 u340 u341 u342 u343 u344 u345 u346 u347 u348 u349 u350 u351 u352 u353 u354 u355 u356 u357 u358 u359 u360 u361 u362 u363 u364 u365 u366 u367 u368 u369 u370 u371 u372 u373 u374 u375 u376 u377 u378 u379 u380 u381 u382 u383 u384 u385 u386 u387 u388 u389 u390 u391 u392 u393 u394 u395 u396 u397 u398 u399 u400 u401 u402 u403 u404 u405 u406 w' hr
  · intro a' w' h
    obtain ⟨u6, h⟩ := h
    obtain ⟨u9, h⟩ := h
    obtain ⟨u10, h⟩ := h
    obtain ⟨u19, h⟩ := h
    obtain ⟨u21, h⟩ := h
    obtain ⟨u22, h⟩ := h
    obtain ⟨u23, h⟩ := h
    obtain ⟨u24, h⟩ := h
    obtain ⟨u25, h⟩ := h
    obtain ⟨u26, h⟩ := h
    obtain ⟨u27, h⟩ := h
    obtain ⟨u28, h⟩ := h
    obtain ⟨u29, h⟩ := h
    obtain ⟨u30, h⟩ := h
    obtain ⟨u31, h⟩ := h
    obtain ⟨u32, h⟩ := h
    obtain ⟨u33, h⟩ := h
    obtain ⟨u34, h⟩ := h
    obtain ⟨u35, h⟩ := h
    obtain ⟨u36, h⟩ := h
    obtain ⟨u37, h⟩ := h
    obtain ⟨u38, h⟩ := h
    obtain ⟨u39, h⟩ := h
    obtain ⟨u40, h⟩ := h
    obtain ⟨u41, h⟩ := h
    obtain ⟨u42, h⟩ := h
    obtain ⟨u43, h⟩ := h
    obtain ⟨u44, h⟩ := h
    obtain ⟨u45, h⟩ := h
    obtain ⟨u86, h⟩ := h
    obtain ⟨u87, h⟩ := h
    obtain ⟨u88, h⟩ := h
    obtain ⟨u89, h⟩ := h
    obtain ⟨u90, h⟩ := h
    obtain ⟨u91, h⟩ := h
    obtain ⟨u92, h⟩ := h
    obtain ⟨u93, h⟩ := h
    obtain ⟨u94, h⟩ := h
    obtain ⟨u95, h⟩ := h
    obtain ⟨u96, h⟩ := h
    obtain ⟨u97, h⟩ := h
    obtain ⟨u98, h⟩ := h
    obtain ⟨u99, h⟩ := h
    obtain ⟨u100, h⟩ := h
    obtain ⟨u101, h⟩ := h
    obtain ⟨u102, h⟩ := h
    obtain ⟨u103, h⟩ := h
    obtain ⟨u104, h⟩ := h
    obtain ⟨u105, h⟩ := h
    obtain ⟨u106, h⟩ := h
    obtain ⟨u107, h⟩ := h
    obtain ⟨u108, h⟩ := h
    obtain ⟨u109, h⟩ := h
    obtain ⟨u110, h⟩ := h
    obtain ⟨u111, h⟩ := h
    obtain ⟨u112, h⟩ := h
    obtain ⟨u113, h⟩ := h
    obtain ⟨u114, h⟩ := h
    obtain ⟨u115, h⟩ := h
    obtain ⟨u116, h⟩ := h
    obtain ⟨u117, h⟩ := h
    obtain ⟨u118, h⟩ := h
    obtain ⟨u119, h⟩ := h
    obtain ⟨u120, h⟩ := h
    obtain ⟨u121, h⟩ := h
    obtain ⟨u122, h⟩ := h
    obtain ⟨u123, h⟩ := h
    obtain ⟨u124, h⟩ := h
    obtain ⟨u125, h⟩ := h
    obtain ⟨u126, h⟩ := h
    obtain ⟨u127, h⟩ := h
    obtain ⟨u128, h⟩ := h
    obtain ⟨u129, h⟩ := h
    obtain ⟨u130, h⟩ := h
    obtain ⟨u131, h⟩ := h
    obtain ⟨u132, h⟩ := h
    obtain ⟨u133, h⟩ := h
    obtain ⟨u134, h⟩ := h
    obtain ⟨u135, h⟩ := h
    obtain ⟨u136, h⟩ := h
    obtain ⟨u137, h⟩ := h
    obtain ⟨u138, h⟩ := h
    obtain ⟨u139, h⟩ := h
    obtain ⟨u140, h⟩ := h
    obtain ⟨u141, h⟩ := h
    obtain ⟨u142, h⟩ := h
    obtain ⟨u143, h⟩ := h
    obtain ⟨u144, h⟩ := h
    obtain ⟨u145, h⟩ := h
    obtain ⟨u146, h⟩ := h
    obtain ⟨u147, h⟩ := h
    obtain ⟨u148, h⟩ := h
    obtain ⟨u149, h⟩ := h
    obtain ⟨u150, h⟩ := h
    obtain ⟨u151, h⟩ := h
    obtain ⟨u152, h⟩ := h
    obtain ⟨u153, h⟩ := h
    obtain ⟨u154, h⟩ := h
    obtain ⟨u155, h⟩ := h
    obtain ⟨u156, h⟩ := h
    obtain ⟨u157, h⟩ := h
    obtain ⟨u158, h⟩ := h
    obtain ⟨u159, h⟩ := h
    obtain ⟨u160, h⟩ := h
    obtain ⟨u161, h⟩ := h
    obtain ⟨u162, h⟩ := h
    obtain ⟨u163, h⟩ := h
    obtain ⟨u164, h⟩ := h
    obtain ⟨u165, h⟩ := h
    obtain ⟨u166, h⟩ := h
    obtain ⟨u167, h⟩ := h
    obtain ⟨u168, h⟩ := h
    obtain ⟨u169, h⟩ := h
    obtain ⟨u170, h⟩ := h
    obtain ⟨u171, h⟩ := h
    obtain ⟨u172, h⟩ := h
    obtain ⟨u173, h⟩ := h
    obtain ⟨u174, h⟩ := h
    obtain ⟨u175, h⟩ := h
    obtain ⟨u176, h⟩ := h
    obtain ⟨u177, h⟩ := h
    obtain ⟨u178, h⟩ := h
    obtain ⟨u179, h⟩ := h
    obtain ⟨u180, h⟩ := h
    obtain ⟨u181, h⟩ := h
    obtain ⟨u182, h⟩ := h
    obtain ⟨u183, h⟩ := h
    obtain ⟨u184, h⟩ := h
    obtain ⟨u185, h⟩ := h
    obtain ⟨u186, h⟩ := h
    obtain ⟨u187, h⟩ := h
    obtain ⟨u188, h⟩ := h
    obtain ⟨u189, h⟩ := h
    obtain ⟨u190, h⟩ := h
    obtain ⟨u191, h⟩ := h
    obtain ⟨u192, h⟩ := h
    obtain ⟨u193, h⟩ := h
    obtain ⟨u194, h⟩ := h
    obtain ⟨u195, h⟩ := h
    obtain ⟨u196, h⟩ := h
    obtain ⟨u197, h⟩ := h
    obtain ⟨u198, h⟩ := h
    obtain ⟨u199, h⟩ := h
    obtain ⟨u200, h⟩ := h
    obtain ⟨u201, h⟩ := h
    obtain ⟨u202, h⟩ := h
    obtain ⟨u203, h⟩ := h
    obtain ⟨u204, h⟩ := h
    obtain ⟨u205, h⟩ := h
    obtain ⟨u206, h⟩ := h
    obtain ⟨u207, h⟩ := h
    obtain ⟨u208, h⟩ := h
    obtain ⟨u209, h⟩ := h
    obtain ⟨u210, h⟩ := h
    obtain ⟨u211, h⟩ := h
    obtain ⟨u212, h⟩ := h
    obtain ⟨u213, h⟩ := h
    obtain ⟨u214, h⟩ := h
    obtain ⟨u215, h⟩ := h
    obtain ⟨u216, h⟩ := h
    obtain ⟨u217, h⟩ := h
    obtain ⟨u218, h⟩ := h
    obtain ⟨u219, h⟩ := h
    obtain ⟨u220, h⟩ := h
    obtain ⟨u221, h⟩ := h
    obtain ⟨u222, h⟩ := h
    obtain ⟨u223, h⟩ := h
    obtain ⟨u224, h⟩ := h
    obtain ⟨u225, h⟩ := h
    obtain ⟨u226, h⟩ := h
    obtain ⟨u227, h⟩ := h
    obtain ⟨u228, h⟩ := h
    obtain ⟨u229, h⟩ := h
    obtain ⟨u230, h⟩ := h
    obtain ⟨u231, h⟩ := h
    obtain ⟨u232, h⟩ := h
    obtain ⟨u233, h⟩ := h
    obtain ⟨u234, h⟩ := h
    obtain ⟨u235, h⟩ := h
    obtain ⟨u236, h⟩ := h
    obtain ⟨u237, h⟩ := h
    obtain ⟨u238, h⟩ := h
    obtain ⟨u239, h⟩ := h
    obtain ⟨u240, h⟩ := h
    obtain ⟨u241, h⟩ := h
    obtain ⟨u242, h⟩ := h
    obtain ⟨u243, h⟩ := h
    obtain ⟨u244, h⟩ := h
    obtain ⟨u245, h⟩ := h
    obtain ⟨u246, h⟩ := h
    obtain ⟨u247, h⟩ := h
    obtain ⟨u248, h⟩ := h
    obtain ⟨u249, h⟩ := h
    obtain ⟨u250, h⟩ := h
    obtain ⟨u251, h⟩ := h
    obtain ⟨u252, h⟩ := h
    obtain ⟨u253, h⟩ := h
    obtain ⟨u254, h⟩ := h
    obtain ⟨u255, h⟩ := h
    obtain ⟨u256, h⟩ := h
    obtain ⟨u257, h⟩ := h
    obtain ⟨u258, h⟩ := h
    obtain ⟨u259, h⟩ := h
    obtain ⟨u260, h⟩ := h
    obtain ⟨u261, h⟩ := h
    obtain ⟨u262, h⟩ := h
    obtain ⟨u263, h⟩ := h
    obtain ⟨u264, h⟩ := h
    obtain ⟨u265, h⟩ := h
    obtain ⟨u266, h⟩ := h
    obtain ⟨u267, h⟩ := h
    obtain ⟨u268, h⟩ := h
    obtain ⟨u269, h⟩ := h
    obtain ⟨u270, h⟩ := h
    obtain ⟨u271, h⟩ := h
    obtain ⟨u272, h⟩ := h
    obtain ⟨u273, h⟩ := h
    obtain ⟨u274, h⟩ := h
    obtain ⟨u275, h⟩ := h
    obtain ⟨u276, h⟩ := h
    obtain ⟨u277, h⟩ := h
    obtain ⟨u278, h⟩ := h
    obtain ⟨u279, h⟩ := h
    obtain ⟨u280, h⟩ := h
    obtain ⟨u281, h⟩ := h
    obtain ⟨u282, h⟩ := h
    obtain ⟨u283, h⟩ := h
    obtain ⟨u284, h⟩ := h
    obtain ⟨u285, h⟩ := h
    obtain ⟨u286, h⟩ := h
    obtain ⟨u287, h⟩ := h
    obtain ⟨u288, h⟩ := h
    obtain ⟨u289, h⟩ := h
    obtain ⟨u290, h⟩ := h
    obtain ⟨u291, h⟩ := h
    obtain ⟨u292, h⟩ := h
    obtain ⟨u293, h⟩ := h
    obtain ⟨u294, h⟩ := h
    obtain ⟨u295, h⟩ := h
    obtain ⟨u296, h⟩ := h
    obtain ⟨u297, h⟩ := h
    obtain ⟨u298, h⟩ := h
    obtain ⟨u299, h⟩ := h
    obtain ⟨u300, h⟩ := h
    obtain ⟨u301, h⟩ := h
    obtain ⟨u302, h⟩ := h
    obtain ⟨u303, h⟩ := h
    obtain ⟨u304, h⟩ := h
    obtain ⟨u305, h⟩ := h
    obtain ⟨u306, h⟩ := h
    obtain ⟨u307, h⟩ := h
    obtain ⟨u308, h⟩ := h
    obtain ⟨u309, h⟩ := h
    obtain ⟨u310, h⟩ := h
    obtain ⟨u311, h⟩ := h
    obtain ⟨u312, h⟩ := h
    obtain ⟨u313, h⟩ := h
    obtain ⟨u314, h⟩ := h
    obtain ⟨u315, h⟩ := h
    obtain ⟨u316, h⟩ := h
    obtain ⟨u317, h⟩ := h
    obtain ⟨u318, h⟩ := h
    obtain ⟨u319, h⟩ := h
    obtain ⟨u320, h⟩ := h
    obtain ⟨u321, h⟩ := h
    obtain ⟨u322, h⟩ := h
    obtain ⟨u323, h⟩ := h
    obtain ⟨u324, h⟩ := h
    obtain ⟨u325, h⟩ := h
    obtain ⟨u326, h⟩ := h
    obtain ⟨u327, h⟩ := h
    obtain ⟨u328, h⟩ := h
    obtain ⟨u329, h⟩ := h
    obtain ⟨u330, h⟩ := h
    obtain ⟨u331, h⟩ := h
    obtain ⟨u332, h⟩ := h
    obtain ⟨u333, h⟩ := h
    obtain ⟨u334, h⟩ := h
    obtain ⟨u335, h⟩ := h
    obtain ⟨u336, h⟩ := h
    obtain ⟨u337, h⟩ := h
    obtain ⟨u338, h⟩ := h
    obtain ⟨u339, h⟩ := h
    obtain ⟨u340, h⟩ := h
    obtain ⟨u341, h⟩ := h
    obtain ⟨u342, h⟩ := h
    obtain ⟨u343, h⟩ := h
    obtain ⟨u344, h⟩ := h
    obtain ⟨u345, h⟩ := h
    obtain ⟨u346, h⟩ := h
    obtain ⟨u347, h⟩ := h
    obtain ⟨u348, h⟩ := h
    obtain ⟨u349, h⟩ := h
    obtain ⟨u350, h⟩ := h
    obtain ⟨u351, h⟩ := h
    obtain ⟨u352, h⟩ := h
    obtain ⟨u353, h⟩ := h
    obtain ⟨u354, h⟩ := h
    obtain ⟨u355, h⟩ := h
    obtain ⟨u356, h⟩ := h
    obtain ⟨u357, h⟩ := h
    obtain ⟨u358, h⟩ := h
    obtain ⟨u359, h⟩ := h
    obtain ⟨u360, h⟩ := h
    obtain ⟨u361, h⟩ := h
    obtain ⟨u362, h⟩ := h
    obtain ⟨u363, h⟩ := h
    obtain ⟨u364, h⟩ := h
    obtain ⟨u365, h⟩ := h
    obtain ⟨u366, h⟩ := h
    obtain ⟨u367, h⟩ := h
    obtain ⟨u368, h⟩ := h
    obtain ⟨u369, h⟩ := h
    obtain ⟨u370, h⟩ := h
    obtain ⟨u371, h⟩ := h
    obtain ⟨u372, h⟩ := h
    obtain ⟨u373, h⟩ := h
    obtain ⟨u374, h⟩ := h
    obtain ⟨u375, h⟩ := h
    obtain ⟨u376, h⟩ := h
    obtain ⟨u377, h⟩ := h
    obtain ⟨u378, h⟩ := h
    obtain ⟨u379, h⟩ := h
    obtain ⟨u380, h⟩ := h
    obtain ⟨u381, h⟩ := h
    obtain ⟨u382, h⟩ := h
    obtain ⟨u383, h⟩ := h
    obtain ⟨u384, h⟩ := h
    obtain ⟨u385, h⟩ := h
    obtain ⟨u386, h⟩ := h
    obtain ⟨u387, h⟩ := h
    obtain ⟨u388, h⟩ := h
    obtain ⟨u389, h⟩ := h
    obtain ⟨u390, h⟩ := h
    obtain ⟨u391, h⟩ := h
    obtain ⟨u392, h⟩ := h
    obtain ⟨u393, h⟩ := h
    obtain ⟨u394, h⟩ := h
    obtain ⟨u395, h⟩ := h
    obtain ⟨u396, h⟩ := h
    obtain ⟨u397, h⟩ := h
    obtain ⟨u398, h⟩ := h
    obtain ⟨u399, h⟩ := h
    obtain ⟨u400, h⟩ := h
    obtain ⟨u401, h⟩ := h
    obtain ⟨u402, h⟩ := h
    obtain ⟨u403, h⟩ := h
    obtain ⟨u404, h⟩ := h
    obtain ⟨u405, h⟩ := h
    obtain ⟨u406, h⟩ := h
    obtain ⟨hr, rfl⟩ := h
    exact hX u6 u9 u10 u19 u21 u22 u23 u24 u25 u26 u27 u28 u29 u30 u31 u32 u33 u34 u35 u36 u37 u38 u39 u40 u41 u42 u43 u44 u45 u86 u87 u88 u89 u90 u91 u92 u93 u94 u95 u96 u97 u98 u99 u100 u101 u102 u103 u104 u105 u106 u107 u108 u109 u110 u111 u112 u113 u114 u115 u116 u117 u118 u119 u120 u121 u122 u123 u124 u125 u126 u127 u128 u129 u130 u131 u132 u133 u134 u135 u136 u137 u138 u139 u140 u141 u142 u143 u144 u145 u146 u147 u148 u149 u150 u151 u152 u153 u154 u155 u156 u157 u158 u159 u160 u161 u162 u163 u164 u165 u166 u167 u168 u169 u170 u171 u172 u173 u174 u175 u176 u177 u178 u179 u180 u181 u182 u183 u184 u185 u186 u187 u188 u189 u190 u191 u192 u193 u194 u195 u196 u197 u198 u199 u200 u201 u202 u203 u204 u205 u206 u207 u208 u209 u210 u211 u212 u213 u214 u215 u216 u217 u218 u219 u220 u221 u222 u223 u224 u225 u226 u227 u228 u229 u230 u231 u232 u233 u234 u235 u236 u237 u238 u239 u240 u241 u242 u243 u244 u245 u246 u247 u248 u249 u250 u251 u252 u253 u254 u255 u256 u257 u258 u259 u260 u261 u262 u263 u264 u265 u266 u267 u268 u269 u270 u271 u272 u273 u274 u275 u276 u277 u278 u279 u280 u281 u282 u283 u284 u285 u286 u287 u288 u289 u290 u291 u292 u293 u294 u295 u296 u297 u298 u299 u300 u301 u302 u303 u304 u305 u306 u307 u308 u309 u310 u311 u312 u313 u314 u315 u316 u317 u318 u319 u320 u321 u322 u323 u324 u325 u326 u327 u328 u329 u330 u331 u332 u333 u334 u335 u336 u337 u338 u339 u340 u341 u342 u343 u344 u345 u346 u347 u348 u349 u350 u351 u352 u353 u354 u355 u356 u357 u358 u359 u360 u361 u362 u363 u364 u365 u366 u367 u368 u369 u370 u371 u372 u373 u374 u375 u376 u377 u378 u379 u380 u381 u382 u383 u384 u385 u386 u387 u388 u389 u390 u391 u392 u393 u394 u395 u396 u397 u398 u399 u400 u401 u402 u403 u404 u405 u406 w' hr
  · intro a' w' h
    obtain ⟨u6, h⟩ := h
    obtain ⟨u9, h⟩ := h
    obtain ⟨u10, h⟩ := h
    obtain ⟨u19, h⟩ := h
    obtain ⟨u21, h⟩ := h
    obtain ⟨u22, h⟩ := h
    obtain ⟨u23, h⟩ := h
    obtain ⟨u24, h⟩ := h
    obtain ⟨u25, h⟩ := h
    obtain ⟨u26, h⟩ := h
    obtain ⟨u27, h⟩ := h
    obtain ⟨u28, h⟩ := h
    obtain ⟨u29, h⟩ := h
    obtain ⟨u30, h⟩ := h
    obtain ⟨u31, h⟩ := h
    obtain ⟨u32, h⟩ := h
    obtain ⟨u33, h⟩ := h
    obtain ⟨u34, h⟩ := h
    obtain ⟨u35, h⟩ := h
    obtain ⟨u36, h⟩ := h
    obtain ⟨u37, h⟩ := h
    obtain ⟨u38, h⟩ := h
    obtain ⟨u39, h⟩ := h
    obtain ⟨u40, h⟩ := h
    obtain ⟨u41, h⟩ := h
    obtain ⟨u42, h⟩ := h
    obtain ⟨u43, h⟩ := h
    obtain ⟨u44, h⟩ := h
    obtain ⟨u45, h⟩ := h
    obtain ⟨u86, h⟩ := h
    obtain ⟨u87, h⟩ := h
    obtain ⟨u88, h⟩ := h
    obtain ⟨u89, h⟩ := h
    obtain ⟨u90, h⟩ := h
    obtain ⟨u91, h⟩ := h
    obtain ⟨u92, h⟩ := h
    obtain ⟨u93, h⟩ := h
    obtain ⟨u94, h⟩ := h
    obtain ⟨u95, h⟩ := h
    obtain ⟨u96, h⟩ := h
    obtain ⟨u97, h⟩ := h
    obtain ⟨u98, h⟩ := h
    obtain ⟨u99, h⟩ := h
    obtain ⟨u100, h⟩ := h
    obtain ⟨u101, h⟩ := h
    obtain ⟨u102, h⟩ := h
    obtain ⟨u103, h⟩ := h
    obtain ⟨u104, h⟩ := h
    obtain ⟨u105, h⟩ := h
    obtain ⟨u106, h⟩ := h
    obtain ⟨u107, h⟩ := h
    obtain ⟨u108, h⟩ := h
    obtain ⟨u109, h⟩ := h
    obtain ⟨u110, h⟩ := h
    obtain ⟨u111, h⟩ := h
    obtain ⟨u112, h⟩ := h
    obtain ⟨u113, h⟩ := h
    obtain ⟨u114, h⟩ := h
    obtain ⟨u115, h⟩ := h
    obtain ⟨u116, h⟩ := h
    obtain ⟨u117, h⟩ := h
    obtain ⟨u118, h⟩ := h
    obtain ⟨u119, h⟩ := h
    obtain ⟨u120, h⟩ := h
    obtain ⟨u121, h⟩ := h
    obtain ⟨u122, h⟩ := h
    obtain ⟨u123, h⟩ := h
    obtain ⟨u124, h⟩ := h
    obtain ⟨u125, h⟩ := h
    obtain ⟨u126, h⟩ := h
    obtain ⟨u127, h⟩ := h
    obtain ⟨u128, h⟩ := h
    obtain ⟨u129, h⟩ := h
    obtain ⟨u130, h⟩ := h
    obtain ⟨u131, h⟩ := h
    obtain ⟨u132, h⟩ := h
    obtain ⟨u133, h⟩ := h
    obtain ⟨u134, h⟩ := h
    obtain ⟨u135, h⟩ := h
    obtain ⟨u136, h⟩ := h
    obtain ⟨u137, h⟩ := h
    obtain ⟨u138, h⟩ := h
    obtain ⟨u139, h⟩ := h
    obtain ⟨u140, h⟩ := h
    obtain ⟨u141, h⟩ := h
    obtain ⟨u142, h⟩ := h
    obtain ⟨u143, h⟩ := h
    obtain ⟨u144, h⟩ := h
    obtain ⟨u145, h⟩ := h
    obtain ⟨u146, h⟩ := h
    obtain ⟨u147, h⟩ := h
    obtain ⟨u148, h⟩ := h
    obtain ⟨u149, h⟩ := h
    obtain ⟨u150, h⟩ := h
    obtain ⟨u151, h⟩ := h
    obtain ⟨u152, h⟩ := h
    obtain ⟨u153, h⟩ := h
    obtain ⟨u154, h⟩ := h
    obtain ⟨u155, h⟩ := h
    obtain ⟨u156, h⟩ := h
    obtain ⟨u157, h⟩ := h
    obtain ⟨u158, h⟩ := h
    obtain ⟨u159, h⟩ := h
    obtain ⟨u160, h⟩ := h
    obtain ⟨u161, h⟩ := h
    obtain ⟨u162, h⟩ := h
    obtain ⟨u163, h⟩ := h
    obtain ⟨u164, h⟩ := h
    obtain ⟨u165, h⟩ := h
    obtain ⟨u166, h⟩ := h
    obtain ⟨u167, h⟩ := h
    obtain ⟨u168, h⟩ := h
    obtain ⟨u169, h⟩ := h
    obtain ⟨u170, h⟩ := h
    obtain ⟨u171, h⟩ := h
    obtain ⟨u172, h⟩ := h
    obtain ⟨u173, h⟩ := h
    obtain ⟨u174, h⟩ := h
    obtain ⟨u175, h⟩ := h
    obtain ⟨u176, h⟩ := h
    obtain ⟨u177, h⟩ := h
    obtain ⟨u178, h⟩ := h
    obtain ⟨u179, h⟩ := h
    obtain ⟨u180, h⟩ := h
    obtain ⟨u181, h⟩ := h
    obtain ⟨u182, h⟩ := h
    obtain ⟨u183, h⟩ := h
    obtain ⟨u184, h⟩ := h
    obtain ⟨u185, h⟩ := h
    obtain ⟨u186, h⟩ := h
    obtain ⟨u187, h⟩ := h
    obtain ⟨u188, h⟩ := h
    obtain ⟨u189, h⟩ := h
    obtain ⟨u190, h⟩ := h
    obtain ⟨u191, h⟩ := h
    obtain ⟨u192, h⟩ := h
    obtain ⟨u193, h⟩ := h
    obtain ⟨u194, h⟩ := h
    obtain ⟨u195, h⟩ := h
    obtain ⟨u196, h⟩ := h
    obtain ⟨u197, h⟩ := h
    obtain ⟨u198, h⟩ := h
    obtain ⟨u199, h⟩ := h
    obtain ⟨u200, h⟩ := h
    obtain ⟨u201, h⟩ := h
    obtain ⟨u202, h⟩ := h
    obtain ⟨u203, h⟩ := h
    obtain ⟨u204, h⟩ := h
    obtain ⟨u205, h⟩ := h
    obtain ⟨u206, h⟩ := h
    obtain ⟨u207, h⟩ := h
    obtain ⟨u208, h⟩ := h
    obtain ⟨u209, h⟩ := h
    obtain ⟨u210, h⟩ := h
    obtain ⟨u211, h⟩ := h
    obtain ⟨u212, h⟩ := h
    obtain ⟨u213, h⟩ := h
    obtain ⟨u214, h⟩ := h
    obtain ⟨u215, h⟩ := h
    obtain ⟨u216, h⟩ := h
    obtain ⟨u217, h⟩ := h
    obtain ⟨u218, h⟩ := h
    obtain ⟨u219, h⟩ := h
    obtain ⟨u220, h⟩ := h
    obtain ⟨u221, h⟩ := h
    obtain ⟨u222, h⟩ := h
    obtain ⟨u223, h⟩ := h
    obtain ⟨u224, h⟩ := h
    obtain ⟨u225, h⟩ := h
    obtain ⟨u226, h⟩ := h
    obtain ⟨u227, h⟩ := h
    obtain ⟨u228, h⟩ := h
    obtain ⟨u229, h⟩ := h
    obtain ⟨u230, h⟩ := h
    obtain ⟨u231, h⟩ := h
    obtain ⟨u232, h⟩ := h
    obtain ⟨u233, h⟩ := h
    obtain ⟨u234, h⟩ := h
    obtain ⟨u235, h⟩ := h
    obtain ⟨u236, h⟩ := h
    obtain ⟨u237, h⟩ := h
    obtain ⟨u238, h⟩ := h
    obtain ⟨u239, h⟩ := h
    obtain ⟨u240, h⟩ := h
    obtain ⟨u241, h⟩ := h
    obtain ⟨u242, h⟩ := h
    obtain ⟨u243, h⟩ := h
    obtain ⟨u244, h⟩ := h
    obtain ⟨u245, h⟩ := h
    obtain ⟨u246, h⟩ := h
    obtain ⟨u247, h⟩ := h
    obtain ⟨u248, h⟩ := h
    obtain ⟨u249, h⟩ := h
    obtain ⟨u250, h⟩ := h
    obtain ⟨u251, h⟩ := h
    obtain ⟨u252, h⟩ := h
    obtain ⟨u253, h⟩ := h
    obtain ⟨u254, h⟩ := h
    obtain ⟨u255, h⟩ := h
    obtain ⟨u256, h⟩ := h
    obtain ⟨u257, h⟩ := h
    obtain ⟨u258, h⟩ := h
    obtain ⟨u259, h⟩ := h
    obtain ⟨u260, h⟩ := h
    obtain ⟨u261, h⟩ := h
    obtain ⟨u262, h⟩ := h
    obtain ⟨u263, h⟩ := h
    obtain ⟨u264, h⟩ := h
    obtain ⟨u265, h⟩ := h
    obtain ⟨u266, h⟩ := h
    obtain ⟨u267, h⟩ := h
    obtain ⟨u268, h⟩ := h
    obtain ⟨u269, h⟩ := h
    obtain ⟨u270, h⟩ := h
    obtain ⟨u271, h⟩ := h
    obtain ⟨u272, h⟩ := h
    obtain ⟨u273, h⟩ := h
    obtain ⟨u274, h⟩ := h
    obtain ⟨u275, h⟩ := h
    obtain ⟨u276, h⟩ := h
    obtain ⟨u277, h⟩ := h
    obtain ⟨u278, h⟩ := h
    obtain ⟨u279, h⟩ := h
    obtain ⟨u280, h⟩ := h
    obtain ⟨u281, h⟩ := h
    obtain ⟨u282, h⟩ := h
    obtain ⟨u283, h⟩ := h
    obtain ⟨u284, h⟩ := h
    obtain ⟨u285, h⟩ := h
    obtain ⟨u286, h⟩ := h
    obtain ⟨u287, h⟩ := h
    obtain ⟨u288, h⟩ := h
    obtain ⟨u289, h⟩ := h
    obtain ⟨u290, h⟩ := h
    obtain ⟨u291, h⟩ := h
    obtain ⟨u292, h⟩ := h
    obtain ⟨u293, h⟩ := h
    obtain ⟨u294, h⟩ := h
    obtain ⟨u295, h⟩ := h
    obtain ⟨u296, h⟩ := h
    obtain ⟨u297, h⟩ := h
    obtain ⟨u298, h⟩ := h
    obtain ⟨u299, h⟩ := h
    obtain ⟨u300, h⟩ := h
    obtain ⟨u301, h⟩ := h
    obtain ⟨u302, h⟩ := h
    obtain ⟨u303, h⟩ := h
    obtain ⟨u304, h⟩ := h
    obtain ⟨u305, h⟩ := h
    obtain ⟨u306, h⟩ := h
    obtain ⟨u307, h⟩ := h
    obtain ⟨u308, h⟩ := h
    obtain ⟨u309, h⟩ := h
    obtain ⟨u310, h⟩ := h
    obtain ⟨u311, h⟩ := h
    obtain ⟨u312, h⟩ := h
    obtain ⟨u313, h⟩ := h
    obtain ⟨u314, h⟩ := h
    obtain ⟨u315, h⟩ := h
    obtain ⟨u316, h⟩ := h
    obtain ⟨u317, h⟩ := h
    obtain ⟨u318, h⟩ := h
    obtain ⟨u319, h⟩ := h
    obtain ⟨u320, h⟩ := h
    obtain ⟨u321, h⟩ := h
    obtain ⟨u322, h⟩ := h
    obtain ⟨u323, h⟩ := h
    obtain ⟨u324, h⟩ := h
    obtain ⟨u325, h⟩ := h
    obtain ⟨u326, h⟩ := h
    obtain ⟨u327, h⟩ := h
    obtain ⟨u328, h⟩ := h
    obtain ⟨u329, h⟩ := h
    obtain ⟨u330, h⟩ := h
    obtain ⟨u331, h⟩ := h
    obtain ⟨u332, h⟩ := h
    obtain ⟨u333, h⟩ := h
    obtain ⟨u334, h⟩ := h
    obtain ⟨u335, h⟩ := h
    obtain ⟨u336, h⟩ := h
    obtain ⟨u337, h⟩ := h
    obtain ⟨u338, h⟩ := h
    obtain ⟨u339, h⟩ := h
    obtain ⟨u340, h⟩ := h
    obtain ⟨u341, h⟩ := h
    obtain ⟨u342, h⟩ := h
    obtain ⟨u343, h⟩ := h
    obtain ⟨u344, h⟩ := h
    obtain ⟨u345, h⟩ := h
    obtain ⟨u346, h⟩ := h
    obtain ⟨u347, h⟩ := h
    obtain ⟨u348, h⟩ := h
    obtain ⟨u349, h⟩ := h
    obtain ⟨u350, h⟩ := h
    obtain ⟨u351, h⟩ := h
    obtain ⟨u352, h⟩ := h
    obtain ⟨u353, h⟩ := h
    obtain ⟨u354, h⟩ := h
    obtain ⟨u355, h⟩ := h
    obtain ⟨u356, h⟩ := h
    obtain ⟨u357, h⟩ := h
    obtain ⟨u358, h⟩ := h
    obtain ⟨u359, h⟩ := h
    obtain ⟨u360, h⟩ := h
    obtain ⟨u361, h⟩ := h
    obtain ⟨u362, h⟩ := h
    obtain ⟨u363, h⟩ := h
    obtain ⟨u364, h⟩ := h
    obtain ⟨u365, h⟩ := h
    obtain ⟨u366, h⟩ := h
    obtain ⟨u367, h⟩ := h
    obtain ⟨u368, h⟩ := h
    obtain ⟨u369, h⟩ := h
    obtain ⟨u370, h⟩ := h
    obtain ⟨u371, h⟩ := h
    obtain ⟨u372, h⟩ := h
    obtain ⟨u373, h⟩ := h
    obtain ⟨u374, h⟩ := h
    obtain ⟨u375, h⟩ := h
    obtain ⟨u376, h⟩ := h
    obtain ⟨u377, h⟩ := h
    obtain ⟨u378, h⟩ := h
    obtain ⟨u379, h⟩ := h
    obtain ⟨u380, h⟩ := h
    obtain ⟨u381, h⟩ := h
    obtain ⟨u382, h⟩ := h
    obtain ⟨u383, h⟩ := h
    obtain ⟨u384, h⟩ := h
    obtain ⟨u385, h⟩ := h
    obtain ⟨u386, h⟩ := h
    obtain ⟨u387, h⟩ := h
    obtain ⟨u388, h⟩ := h
    obtain ⟨u389, h⟩ := h
    obtain ⟨u390, h⟩ := h
    obtain ⟨u391, h⟩ := h
    obtain ⟨u392, h⟩ := h
    obtain ⟨u393, h⟩ := h
    obtain ⟨u394, h⟩ := h
    obtain ⟨u395, h⟩ := h
    obtain ⟨u396, h⟩ := h
    obtain ⟨u397, h⟩ := h
    obtain ⟨u398, h⟩ := h
    obtain ⟨u399, h⟩ := h
    obtain ⟨u400, h⟩ := h
    obtain ⟨u401, h⟩ := h
    obtain ⟨u402, h⟩ := h
    obtain ⟨u403, h⟩ := h
    obtain ⟨u404, h⟩ := h
    obtain ⟨u405, h⟩ := h
    obtain ⟨u406, h⟩ := h
    obtain ⟨hr, rfl⟩ := h
    exact hR u6 u9 u10 u19 u21 u22 u23 u24 u25 u26 u27 u28 u29 u30 u31 u32 u33 u34 u35 u36 u37 u38 u39 u40 u41 u42 u43 u44 u45 u86 u87 u88 u89 u90 u91 u92 u93 u94 u95 u96 u97 u98 u99 u100 u101 u102 u103 u104 u105 u106 u107 u108 u109 u110 u111 u112 u113 u114 u115 u116 u117 u118 u119 u120 u121 u122 u123 u124 u125 u126 u127 u128 u129 u130 u131 u132 u133 u134 u135 u136 u137 u138 u139 u140 u141 u142 u143 u144 u145 u146 u147 u148 u149 u150 u151 u152 u153 u154 u155 u156 u157 u158 u159 u160 u161 u162 u163 u164 u165 u166 u167 u168 u169 u170 u171 u172 u173 u174 u175 u176 u177 u178 u179 u180 u181 u182 u183 u184 u185 u186 u187 u188 u189 u190 u191 u192 u193 u194 u195 u196 u197 u198 u199 u200 u201 u202 u203 u204 u205 u206 u207 u208 u209 u210 u211 u212 u213 u214 u215 u216 u217 u218 u219 u220 u221 u222 u223 u224 u225 u226 u227 u228 u229 u230 u231 u232 u233 u234 u235 u236 u237 u238 u239 u240 u241 u242 u243 u244 u245 u246 u247 u248 u249 u250 u251 u252 u253 u254 u255 u256 u257 u258 u259 u260 u261 u262 u263 u264 u265 u266 u267 u268 u269 u270 u271 u272 u273 u274 u275 u276 u277 u278 u279 u280 u281 u282 u283 u284 u285 u286 u287 u288 u289 u290 u291 u292 u293 u294 u295 u296 u297 u298 u299 u300 u301 u302 u303 u304 u305 u306 u307 u308 u309 u310 u311 u312 u313 u314 u315 u316 u317 u318 u319 u320 u321 u322 u323 u324 u325 u326 u327 u328 u329 u330 u331 u332 u333 u334 u335 u336 u337 u338 u339 u340 u341 u342 u343 u344 u345 u346 u347 u348 u349 u350 u351 u352 u353 u354 u355 u356 u357 u358 u359 u360 u361 u362 u363 u364 u365 u366 u367 u368 u369 u370 u371 u372 u373 u374 u375 u376 u377 u378 u379 u380 u381 u382 u383 u384 u385 u386 u387 u388 u389 u390 u391 u392 u393 u394 u395 u396 u397 u398 u399 u400 u401 u402 u403 u404 u405 u406 w' hr
end Go.Proofs.Ytdljnhdhigbefaa
