/- The document's layer 12: its Solve: a round. No condition but on lengths. -/
import Derived.Test.YtbmnlohaidbmdaaQt
import Derived.Test.YtbmnlohaidbmdaaQs2
namespace Go.Proofs.Ytbmnlohaidbmdaa
open Go Go.RowKit
set_option maxRecDepth 1000000

/-- What is held. -/
structure RqW (w W : World) (X : Nat) (da ea za : Option Addr) (bd be zb cd ce zc rows n ne M : Nat) (S : QlS) : Prop where
  box : Box W X [.int .i64 rows, .int .i64 n, .slice za M zc]
  br : Box W (w.heap.size + 1 + 1) [.int .i64 0, .int .i64 0, .slice none 0 0]
  d : FS W da bd S.d
  e : FS W ea be S.e
  z : FS W za zb S.z
  dl : S.d.length = n
  el : S.e.length = ne
  zl : S.z.length = M
  wd : Words S.d
  we : Words S.e
  bel : Below w.heap.size w W
theorem RqW.below {w W W' : World} {X bd be zb cd ce zc rows n ne M : Nat} {da ea za : Option Addr} {S : QlS} (h : RqW w W X da ea za bd be zb cd ce zc rows n ne M S) (hb : Below W.heap.size W W') : RqW w W' X da ea za bd be zb cd ce zc rows n ne M S :=
  ⟨h.box.below hb, h.br.below hb, h.d.below hb, h.e.below hb, h.z.below hb, h.dl, h.el, h.zl, h.wd, h.we, below_step h.bel h.bel.size hb⟩
/-- What the document's solving comes to. -/
def RSolveQ (w : World) (n M rows : Nat) (y : QlS × Nat × Bool) (r : Ending) (w' : World) : Prop :=
  if y.2.2 = true ∧ y.1.d.all ffin = true then
    ∃ a cap za zc, r = .returned (.tuple #[.slice a n cap, .agg #[.int .i64 rows, .int .i64 n, .slice za M zc], .int .i64 (y.2.1 : Nat), .bool true]) ∧ Fls w' a (sortQ n rows y.1.d y.1.z n).1 ∧ Fls w' za (sortQ n rows y.1.d y.1.z n).2 ∧ Below w.heap.size w w'
  else r = .returned (.tuple #[.slice none 0 0, .agg #[.int .i64 0, .int .i64 0, .slice none 0 0], .int .i64 (y.2.1 : Nat), .bool false]) ∧ Below w.heap.size w w'
theorem RqW.next {w W W' : World} {X bd be zb cd ce zc rows n M l m : Nat} {za : Option Addr} {T : QlS} (hD : QlD w X bd be zb zc rows n n M) (h0 : 0 < n) (h : RqW w W X (some ⟨bd, 0, none⟩) (some ⟨be, 0, none⟩) za bd be zb cd ce zc rows n n M T) (hb : Bls [bd, be, zb] W.heap.size W W')
    (f1 : Flb W' bd (sweepL n rows T l m).d) (f2 : Flb W' be (sweepL n rows T l m).e) (f3 : FS W' za zb (sweepL n rows T l m).z) : RqW w W' X (some ⟨bd, 0, none⟩) (some ⟨be, 0, none⟩) za bd be zb cd ce zc rows n n M (sweepL n rows T l m) := by
  obtain ⟨g1, g2, g3⟩ := sweepL_len n rows T l m
  obtain ⟨v1, v2⟩ := sweepL_words (n := n) (rows := rows) (x := T) h.wd h.we l m
  have d0 := hD.d0 h0
  have e0 := hD.e0
  have z0 := hD.z0
  refine ⟨h.box.bls hb h.box.lt (by simp only [List.mem_cons, List.not_mem_nil, or_false, not_or]; exact ⟨hD.xd h0, hD.xe, hD.xz⟩), h.br.bls hb h.br.lt (by simp only [List.mem_cons, List.not_mem_nil, or_false, not_or]; omega), .inr ⟨rfl, f1⟩, .inr ⟨rfl, f2⟩, f3, g1.trans h.dl, g2.trans h.el, g3.trans h.zl, v1, v2, ?_⟩
  exact ((Bls.of h.bel).trans (hb.mono h.bel.size)).below (fun k hk => by
    simp only [List.mem_cons, List.not_mem_nil, or_false] at hk
    rcases hk with rfl | rfl | rfl <;> omega)
theorem RHyp1 (x s : Nat) (hx : x < 18446744073709551616) (w : World) : Calls Try.prog 30 #[.float .f64 (raw x s), .float .f64 4607182418800017408] w fun e w' => FR e (hypW x 4607182418800017408) ∧ Below w.heap.size w w' := by
  have := RHypotF x s 4607182418800017408 0 hx (by decide) w
  rw [raw_of_not (show isnan 4607182418800017408 = false by kernel_rfl)] at this
  exact this
set_option maxRecDepth 1000000 in
set_option maxHeartbeats 32000000 in
theorem solve_round (c0 c1 c2 c3 c4 c6 c7 c15 c16 c17 c18 c19 c20 c21 c22 c23 c24 c25 c26 c27 c28 c29 c30 c31 c32 c33 c34 c35 c36 c37 c38 c39 c40 c41 c42 c43 c44 c45 c46 c47 c48 c49 c50 c51 c52 c53 c54 c55 c56 c57 c58 c59 c60 c61 c62 c63 c64 c65 c66 c67 c68 c69 c70 c71 c72 c73 c74 c75 c76 c77 c78 c79 c80 c81 c82 c83 c84 c85 c86 c87 c88 c89 c90 c91 c92 c93 c94 c95 c96 c97 c98 c99 c100 c101 c102 c103 c104 c105 c106 c107 c108 c109 c110 c111 c112 c113 c114 c115 c116 c117 c118 c119 c120 c121 c122 c123 c124 c125 c126 c127 c128 c129 c130 c131 c132 c133 c134 c135 c136 c137 c138 c139 c140 c141 c142 c143 c144 c145 c146 c147 c148 c149 c150 c151 c152 c153 c154 c155 c156 c157 c158 c159 c160 c161 c162 c163 c164 c165 c166 c167 c168 c169 c170 c171 c172 c173 c174 c175 c176 c177 c178 c179 c180 c181 c182 c183 c184 c185 c186 c187 c188 c189 c190 c191 c192 c193 c194 c195 c196 c197 c198 c199 c200 c201 c202 c203 c204 c205 c206 c207 c208 c209 c210 c211 c212 c213 c214 c215 c216 c217 c218 c219 c220 c221 c222 c223 c224 c225 c226 c227 c228 c229 c230 c231 c232 c233 c234 c235 c236 c237 c238 c239 c240 c241 c242 c243 c244 c245 c246 c247 c248 c249 c250 c251 c252 c253 c254 c255 c256 c257 c258 c259 c260 c261 c262 c263 c264 c265 c266 c267 c268 c269 c270 c271 c272 c273 c274 c275 c276 c277 c278 c279 c280 c281 c282 c283 c284 c285 c286 c287 c288 c289 c290 c291 c292 c293 c294 c295 c296 c297 c298 c299 c300 c301 c302 c303 c304 c305 c306 c307 c308 c309 c310 : Value) (X bd be zb rows n cd ce zc l m sm M : Nat) (za : Option Addr) (T : QlS) (w0 w : World) (hD : QlD w0 X bd be zb zc rows n n M) (hT : RqW w0 w X (some ⟨bd, 0, none⟩) (some ⟨be, 0, none⟩) za bd be zb cd ce zc rows n n M T) (hl : l < n) (hm : m ≤ 30) (hsm : sm ≤ 262144) (J K : Act → World → Prop) (Q' : Exit → Act → World → Prop)
    (hJ : ∀ (a' : Act) (w' : World), (∃ u4 u6 u7 u12 u14 u15 u16 u17 u18 u19 u20 u21 u22 u23 u24 u25 u26 u27 u28 u29 u30 u31 u32 u33 u34 u35 u54 u55 u56 u57 u58 u59 u60 u61 u62 u63 u64 u65 u66 u67 u68 u69 u70 u71 u72 u73 u74 u75 u76 u77 u78 u79 u80 u81 u82 u83 u84 u85 u86 u87 u88 u89 u90 u91 u92 u93 u94 u95 u96 u97 u98 u99 u100 u101 u102 u103 u104 u105 u106 u107 u108 u109 u110 u111 u112 u113 u114 u115 u116 u117 u118 u119 u120 u121 u122 u123 u124 u125 u126 u127 u128 u129 u130 u131 u132 u133 u134 u135 u136 u137 u138 u139 u140 u141 u142 u143 u144 u145 u146 u147 u148 u149 u150 u151 u152 u153 u154 u155 u156 u157 u158 u159 u160 u161 u162 u163 u164 u165 u166 u167 u168 u169 u170 u171 u172 u173 u174 u175 u176 u177 u178 u179 u180 u181 u182 u183 u184 u185 u186 u187 u188 u189 u190 u191 u192 u193 u194 u195 u196 u197 u198 u199 u200 u201 u202 u203 u204 u205 u206 u207 u208 u209 u210 u211 u212 u213 u214 u215 u216 u217 u218 u219 u220 u221 u222 u223 u224 u225 u226 u227 u228 u229 u230 u231 u232 u233 u234 u235 u236 u237 u238 u239 u240 u241 u242 u243 u244 u245 u246 u247 u248 u249 u250 u251 u252 u253 u254 u255 u256 u257 u258 u259 u260 u261 u262 u263 u264 u265 u266 u267 u268 u269 u270 u271 u272 u273 u274 u275 u276 u277 u278 u279 u280 u281 u282 u283 u284 u285 u286 u287 u288 u289 u290 u291 u292 u293 u294 u295 u296 u297 u298 u299 : Value, (endL T.d T.e T.d.length l ≠ l ∧ m ≠ 30 ∧ u12 = .int .i64 (sm + 1 : Nat) ∧ u14 = .int .i64 (m + 1 : Nat) ∧ RqW w0 w' X (some ⟨bd, 0, none⟩) (some ⟨be, 0, none⟩) za bd be zb cd ce zc rows n n M (sweepL n rows T l (endL T.d T.e T.d.length l))) ∧ a' = { tmps := #[c0, c1, c2, c3, u4, .pointer (some ⟨w0.heap.size + 1 + 1, 0, none⟩), u6, u7, .int .i64 n, .slice (some ⟨bd, 0, none⟩) n cd, .slice (some ⟨be, 0, none⟩) n ce, .pointer (some ⟨X, 0, none⟩), u12, .int .i64 l, u14, u15, u16, u17, u18, u19, u20, u21, u22, u23, u24, u25, u26, u27, u28, u29, u30, u31, u32, u33, u34, u35, c36, c37, c38, c39, c40, c41, c42, c43, c44, c45, c46, c47, c48, c49, c50, c51, c52, c53, u54, u55, u56, u57, u58, u59, u60, u61, u62, u63, u64, u65, u66, u67, u68, u69, u70, u71, u72, u73, u74, u75, u76, u77, u78, u79, u80, u81, u82, u83, u84, u85, u86, u87, u88, u89, u90, u91, u92, u93, u94, u95, u96, u97, u98, u99, u100, u101, u102, u103, u104, u105, u106, u107, u108, u109, u110, u111, u112, u113, u114, u115, u116, u117, u118, u119, u120, u121, u122, u123, u124, u125, u126, u127, u128, u129, u130, u131, u132, u133, u134, u135, u136, u137, u138, u139, u140, u141, u142, u143, u144, u145, u146, u147, u148, u149, u150, u151, u152, u153, u154, u155, u156, u157, u158, u159, u160, u161, u162, u163, u164, u165, u166, u167, u168, u169, u170, u171, u172, u173, u174, u175, u176, u177, u178, u179, u180, u181, u182, u183, u184, u185, u186, u187, u188, u189, u190, u191, u192, u193, u194, u195, u196, u197, u198, u199, u200, u201, u202, u203, u204, u205, u206, u207, u208, u209, u210, u211, u212, u213, u214, u215, u216, u217, u218, u219, u220, u221, u222, u223, u224, u225, u226, u227, u228, u229, u230, u231, u232, u233, u234, u235, u236, u237, u238, u239, u240, u241, u242, u243, u244, u245, u246, u247, u248, u249, u250, u251, u252, u253, u254, u255, u256, u257, u258, u259, u260, u261, u262, u263, u264, u265, u266, u267, u268, u269, u270, u271, u272, u273, u274, u275, u276, u277, u278, u279, u280, u281, u282, u283, u284, u285, u286, u287, u288, u289, u290, u291, u292, u293, u294, u295, u296, u297, u298, u299, c300, c301, c302, c303, c304, c305, c306, c307, c308, c309, c310], defers := [] }) → J a' w') (hKJ : ∀ (a' : Act) (w' : World), Met J a' w' → K a' w')
    (hX : ∀ (a' : Act) (w' : World), (∃ u4 u6 u7 u12 u14 u15 u16 u17 u18 u19 u20 u21 u22 u23 u24 u25 u26 u27 u28 u29 u30 u31 u32 u33 u34 u35 u54 u55 u56 u57 u58 u59 u60 u61 u62 u63 u64 u65 u66 u67 u68 u69 u70 u71 u72 u73 u74 u75 u76 u77 u78 u79 u80 u81 u82 u83 u84 u85 u86 u87 u88 u89 u90 u91 u92 u93 u94 u95 u96 u97 u98 u99 u100 u101 u102 u103 u104 u105 u106 u107 u108 u109 u110 u111 u112 u113 u114 u115 u116 u117 u118 u119 u120 u121 u122 u123 u124 u125 u126 u127 u128 u129 u130 u131 u132 u133 u134 u135 u136 u137 u138 u139 u140 u141 u142 u143 u144 u145 u146 u147 u148 u149 u150 u151 u152 u153 u154 u155 u156 u157 u158 u159 u160 u161 u162 u163 u164 u165 u166 u167 u168 u169 u170 u171 u172 u173 u174 u175 u176 u177 u178 u179 u180 u181 u182 u183 u184 u185 u186 u187 u188 u189 u190 u191 u192 u193 u194 u195 u196 u197 u198 u199 u200 u201 u202 u203 u204 u205 u206 u207 u208 u209 u210 u211 u212 u213 u214 u215 u216 u217 u218 u219 u220 u221 u222 u223 u224 u225 u226 u227 u228 u229 u230 u231 u232 u233 u234 u235 u236 u237 u238 u239 u240 u241 u242 u243 u244 u245 u246 u247 u248 u249 u250 u251 u252 u253 u254 u255 u256 u257 u258 u259 u260 u261 u262 u263 u264 u265 u266 u267 u268 u269 u270 u271 u272 u273 u274 u275 u276 u277 u278 u279 u280 u281 u282 u283 u284 u285 u286 u287 u288 u289 u290 u291 u292 u293 u294 u295 u296 u297 u298 u299 : Value, (endL T.d T.e T.d.length l = l ∧ u12 = .int .i64 (sm : Nat) ∧ u14 = .int .i64 (m : Nat) ∧ RqW w0 w' X (some ⟨bd, 0, none⟩) (some ⟨be, 0, none⟩) za bd be zb cd ce zc rows n n M T) ∧ a' = { tmps := #[c0, c1, c2, c3, u4, .pointer (some ⟨w0.heap.size + 1 + 1, 0, none⟩), u6, u7, .int .i64 n, .slice (some ⟨bd, 0, none⟩) n cd, .slice (some ⟨be, 0, none⟩) n ce, .pointer (some ⟨X, 0, none⟩), u12, .int .i64 l, u14, u15, u16, u17, u18, u19, u20, u21, u22, u23, u24, u25, u26, u27, u28, u29, u30, u31, u32, u33, u34, u35, c36, c37, c38, c39, c40, c41, c42, c43, c44, c45, c46, c47, c48, c49, c50, c51, c52, c53, u54, u55, u56, u57, u58, u59, u60, u61, u62, u63, u64, u65, u66, u67, u68, u69, u70, u71, u72, u73, u74, u75, u76, u77, u78, u79, u80, u81, u82, u83, u84, u85, u86, u87, u88, u89, u90, u91, u92, u93, u94, u95, u96, u97, u98, u99, u100, u101, u102, u103, u104, u105, u106, u107, u108, u109, u110, u111, u112, u113, u114, u115, u116, u117, u118, u119, u120, u121, u122, u123, u124, u125, u126, u127, u128, u129, u130, u131, u132, u133, u134, u135, u136, u137, u138, u139, u140, u141, u142, u143, u144, u145, u146, u147, u148, u149, u150, u151, u152, u153, u154, u155, u156, u157, u158, u159, u160, u161, u162, u163, u164, u165, u166, u167, u168, u169, u170, u171, u172, u173, u174, u175, u176, u177, u178, u179, u180, u181, u182, u183, u184, u185, u186, u187, u188, u189, u190, u191, u192, u193, u194, u195, u196, u197, u198, u199, u200, u201, u202, u203, u204, u205, u206, u207, u208, u209, u210, u211, u212, u213, u214, u215, u216, u217, u218, u219, u220, u221, u222, u223, u224, u225, u226, u227, u228, u229, u230, u231, u232, u233, u234, u235, u236, u237, u238, u239, u240, u241, u242, u243, u244, u245, u246, u247, u248, u249, u250, u251, u252, u253, u254, u255, u256, u257, u258, u259, u260, u261, u262, u263, u264, u265, u266, u267, u268, u269, u270, u271, u272, u273, u274, u275, u276, u277, u278, u279, u280, u281, u282, u283, u284, u285, u286, u287, u288, u289, u290, u291, u292, u293, u294, u295, u296, u297, u298, u299, c300, c301, c302, c303, c304, c305, c306, c307, c308, c309, c310], defers := [] }) → Q' (.exit 2) a' w')
    (hR : ∀ (a' : Act) (w' : World), (∃ u4 u6 u7 u12 u14 u15 u16 u17 u18 u19 u20 u21 u22 u23 u24 u25 u26 u27 u28 u29 u30 u31 u32 u33 u34 u35 u54 u55 u56 u57 u58 u59 u60 u61 u62 u63 u64 u65 u66 u67 u68 u69 u70 u71 u72 u73 u74 u75 u76 u77 u78 u79 u80 u81 u82 u83 u84 u85 u86 u87 u88 u89 u90 u91 u92 u93 u94 u95 u96 u97 u98 u99 u100 u101 u102 u103 u104 u105 u106 u107 u108 u109 u110 u111 u112 u113 u114 u115 u116 u117 u118 u119 u120 u121 u122 u123 u124 u125 u126 u127 u128 u129 u130 u131 u132 u133 u134 u135 u136 u137 u138 u139 u140 u141 u142 u143 u144 u145 u146 u147 u148 u149 u150 u151 u152 u153 u154 u155 u156 u157 u158 u159 u160 u161 u162 u163 u164 u165 u166 u167 u168 u169 u170 u171 u172 u173 u174 u175 u176 u177 u178 u179 u180 u181 u182 u183 u184 u185 u186 u187 u188 u189 u190 u191 u192 u193 u194 u195 u196 u197 u198 u199 u200 u201 u202 u203 u204 u205 u206 u207 u208 u209 u210 u211 u212 u213 u214 u215 u216 u217 u218 u219 u220 u221 u222 u223 u224 u225 u226 u227 u228 u229 u230 u231 u232 u233 u234 u235 u236 u237 u238 u239 u240 u241 u242 u243 u244 u245 u246 u247 u248 u249 u250 u251 u252 u253 u254 u255 u256 u257 u258 u259 u260 u261 u262 u263 u264 u265 u266 u267 u268 u269 u270 u271 u272 u273 u274 u275 u276 u277 u278 u279 u280 u281 u282 u283 u284 u285 u286 u287 u288 u289 u290 u291 u292 u293 u294 u295 u296 u297 u298 u299 : Value, (endL T.d T.e T.d.length l ≠ l ∧ m = 30 ∧ u4 = .slice none 0 0 ∧ u6 = .int .i64 (sm : Nat) ∧ u7 = .bool false ∧ Box w' (w0.heap.size + 1 + 1) [.int .i64 0, .int .i64 0, .slice none 0 0] ∧ Below w0.heap.size w0 w') ∧ a' = { tmps := #[c0, c1, c2, c3, u4, .pointer (some ⟨w0.heap.size + 1 + 1, 0, none⟩), u6, u7, .int .i64 n, .slice (some ⟨bd, 0, none⟩) n cd, .slice (some ⟨be, 0, none⟩) n ce, .pointer (some ⟨X, 0, none⟩), u12, .int .i64 l, u14, u15, u16, u17, u18, u19, u20, u21, u22, u23, u24, u25, u26, u27, u28, u29, u30, u31, u32, u33, u34, u35, c36, c37, c38, c39, c40, c41, c42, c43, c44, c45, c46, c47, c48, c49, c50, c51, c52, c53, u54, u55, u56, u57, u58, u59, u60, u61, u62, u63, u64, u65, u66, u67, u68, u69, u70, u71, u72, u73, u74, u75, u76, u77, u78, u79, u80, u81, u82, u83, u84, u85, u86, u87, u88, u89, u90, u91, u92, u93, u94, u95, u96, u97, u98, u99, u100, u101, u102, u103, u104, u105, u106, u107, u108, u109, u110, u111, u112, u113, u114, u115, u116, u117, u118, u119, u120, u121, u122, u123, u124, u125, u126, u127, u128, u129, u130, u131, u132, u133, u134, u135, u136, u137, u138, u139, u140, u141, u142, u143, u144, u145, u146, u147, u148, u149, u150, u151, u152, u153, u154, u155, u156, u157, u158, u159, u160, u161, u162, u163, u164, u165, u166, u167, u168, u169, u170, u171, u172, u173, u174, u175, u176, u177, u178, u179, u180, u181, u182, u183, u184, u185, u186, u187, u188, u189, u190, u191, u192, u193, u194, u195, u196, u197, u198, u199, u200, u201, u202, u203, u204, u205, u206, u207, u208, u209, u210, u211, u212, u213, u214, u215, u216, u217, u218, u219, u220, u221, u222, u223, u224, u225, u226, u227, u228, u229, u230, u231, u232, u233, u234, u235, u236, u237, u238, u239, u240, u241, u242, u243, u244, u245, u246, u247, u248, u249, u250, u251, u252, u253, u254, u255, u256, u257, u258, u259, u260, u261, u262, u263, u264, u265, u266, u267, u268, u269, u270, u271, u272, u273, u274, u275, u276, u277, u278, u279, u280, u281, u282, u283, u284, u285, u286, u287, u288, u289, u290, u291, u292, u293, u294, u295, u296, u297, u298, u299, c300, c301, c302, c303, c304, c305, c306, c307, c308, c309, c310], defers := [] }) → Q' .ret a' w') :
    Code.wp Try.prog ((findBlock (Try.f14.body.getD .skip) 3).getD .skip) (Exit.then K Q') { tmps := #[c0, c1, c2, c3, c4, .pointer (some ⟨w0.heap.size + 1 + 1, 0, none⟩), c6, c7, .int .i64 n, .slice (some ⟨bd, 0, none⟩) n cd, .slice (some ⟨be, 0, none⟩) n ce, .pointer (some ⟨X, 0, none⟩), .int .i64 (sm : Nat), .int .i64 l, .int .i64 (m : Nat), c15, c16, c17, c18, c19, c20, c21, c22, c23, c24, c25, c26, c27, c28, c29, c30, c31, c32, c33, c34, c35, c36, c37, c38, c39, c40, c41, c42, c43, c44, c45, c46, c47, c48, c49, c50, c51, c52, c53, c54, c55, c56, c57, c58, c59, c60, c61, c62, c63, c64, c65, c66, c67, c68, c69, c70, c71, c72, c73, c74, c75, c76, c77, c78, c79, c80, c81, c82, c83, c84, c85, c86, c87, c88, c89, c90, c91, c92, c93, c94, c95, c96, c97, c98, c99, c100, c101, c102, c103, c104, c105, c106, c107, c108, c109, c110, c111, c112, c113, c114, c115, c116, c117, c118, c119, c120, c121, c122, c123, c124, c125, c126, c127, c128, c129, c130, c131, c132, c133, c134, c135, c136, c137, c138, c139, c140, c141, c142, c143, c144, c145, c146, c147, c148, c149, c150, c151, c152, c153, c154, c155, c156, c157, c158, c159, c160, c161, c162, c163, c164, c165, c166, c167, c168, c169, c170, c171, c172, c173, c174, c175, c176, c177, c178, c179, c180, c181, c182, c183, c184, c185, c186, c187, c188, c189, c190, c191, c192, c193, c194, c195, c196, c197, c198, c199, c200, c201, c202, c203, c204, c205, c206, c207, c208, c209, c210, c211, c212, c213, c214, c215, c216, c217, c218, c219, c220, c221, c222, c223, c224, c225, c226, c227, c228, c229, c230, c231, c232, c233, c234, c235, c236, c237, c238, c239, c240, c241, c242, c243, c244, c245, c246, c247, c248, c249, c250, c251, c252, c253, c254, c255, c256, c257, c258, c259, c260, c261, c262, c263, c264, c265, c266, c267, c268, c269, c270, c271, c272, c273, c274, c275, c276, c277, c278, c279, c280, c281, c282, c283, c284, c285, c286, c287, c288, c289, c290, c291, c292, c293, c294, c295, c296, c297, c298, c299, c300, c301, c302, c303, c304, c305, c306, c307, c308, c309, c310], defers := [] } w := by
  conv => arg 2; whnf
  have HKJ := Lib.hid hKJ
  have HJ := Lib.hid hJ
  have HXX := Lib.hid hX
  have HRR := Lib.hid hR
  clear hJ hKJ hX hR
  have hTd := hT.dl
  have hTe := hT.el
  have hbnd := endL_bnd T.d T.e T.d.length l
  have hq1 := hbnd.1
  have hq2 := hbnd.2 (by omega)
  obtain ⟨q, hq⟩ : ∃ q, q = endL T.d T.e T.d.length l := ⟨_, rfl⟩
  rw [← hq] at hq1 hq2 HJ HXX HRR
  have HQ := Lib.hid hq
  obtain ⟨_, hfd⟩ := hT.d.flb (by omega)
  obtain ⟨_, hfe⟩ := hT.e.flb (by omega)
  have HT := Lib.hid hT
  have HF := Lib.hid (show _ ∧ _ ∧ _ ∧ _ ∧ _ ∧ _ from ⟨hfd, hfe, hT.wd, hT.we, hTd, hTe⟩)
  have HD := Lib.hid hD
  have hn512 := hD.hn
  rw [hTd] at hq2
  clear hT hbnd hTd hTe hq hfd hfe hD
  go_upto_block 4 with (fail)
  refine block_end2_q _ _ _ _ _ _ _ _ _ _ _ _ _ _ _ _ _ _ _ _ _ _ _ _ _ _ _ _ _ _ _ _ _ _ _ _ _ _ _ _ _ _ _ _ _ _ _ _ _ _ _ _ _ _ _ _ _ _ _ _ _ _ _ _ _ _ _ _ _ _ _ _ _ _ _ _ _ _ _ _ _ _ _ _ _ _ _ _ _ _ _ _ _ _ _ _ _ _ _ _ _ _ _ _ _ _ _ _ _ _ _ _ _ _ _ _ _ _ _ _ _ _ _ _ _ _ _ _ _ _ _ _ _ _ _ _ _ _ _ _ _ _ _ _ _ _ _ _ _ _ _ _ _ _ _ _ _ _ _ _ _ _ _ _ _ _ _ _ _ _ _ _ _ _ _ _ _ _ _ _ _ _ _ _ _ _ _ _ _ _ _ _ _ _ _ _ _ _ _ _ _ _ _ _ _ _ _ _ _ _ _ _ _ _ _ _ _ _ _ _ _ _ _ _ _ _ _ _ _ _ _ _ _ _ _ _ _ _ _ _ _ _ _ _ _ _ _ _ _ _ _ _ _ _ _ _ _ _ _ _ _ _ _ _ _ _ _ _ _ _ _ _ _ _ _ _ _ _ _ _ _ _ _ _ _ _ _ _ _ _ _ _ _ _ _ _ _ _ _ _ _ _ _ _ _ _ _ bd be cd ce l n T.d T.e w HF.out.1 HF.out.2.1 HF.out.2.2.1 HF.out.2.2.2.1 HF.out.2.2.2.2.1 HF.out.2.2.2.2.2 hl hn512 _ ?_
  intro u15 u16 u55 u56 u57 u58 u59 u60 u61 u62 u63 u64 u65 u66 u67 u68 u69 u70 u71 u72 u73 u74 u75 u76 u77 u78 u79 u80 u81 w1 hcut
  obtain ⟨rfl, hb1⟩ := hcut
  have hqq : endL T.d T.e n l = q := by rw [HQ.out, HF.out.2.2.2.2.1]
  rw [hqq]
  have HT1 := Lib.hid (HT.out.below hb1)
  clear hb1 hqq HT
  by_cases hql : q = l
  · subst hql
    go_wp2_with fail
    refine HXX.out _ _ ?_
    (repeat apply Exists.intro)
    exact ⟨⟨rfl, rfl, rfl, HT1.out⟩, rfl⟩
  · have hql' : ¬ (q : Int) = (l : Int) := by omega
    by_cases hm30 : m = 30
    · subst hm30
      obtain ⟨p1, p2, p3⟩ := HT1.out.br.facts
      have HBB := Lib.hid (show _ ∧ _ from ⟨HT1.out.br.put3 (.int .i64 0) (.int .i64 0) (.slice none 0 0), below_put3 HT1.out.bel (show w0.heap.size ≤ w0.heap.size + 1 + 1 by omega) (.int .i64 0) (.int .i64 0) (.slice none 0 0)⟩)
      go_wp2_with fail
      refine HRR.out _ _ ?_
      (repeat apply Exists.intro)
      exact ⟨⟨hql, rfl, rfl, rfl, rfl, HBB.out.1, HBB.out.2⟩, rfl⟩
    · have hm' : ¬ (m : Int) = 30 := by omega
      obtain ⟨_, hfd⟩ := HT1.out.d.flb (by rw [HT1.out.dl]; omega)
      obtain ⟨_, hfe⟩ := HT1.out.e.flb (by rw [HT1.out.el]; omega)
      have hTd := HT1.out.dl
      have hTe := HT1.out.el
      have i1 : l + 1 < n := by omega
      have i5 : IntKind.i64.wrap ((l : Int) + 1) = (l : Int) + 1 := wi64n (l + 1) (by omega) (by omega)
      obtain ⟨s1, c1⟩ := hfd.at (i := l) (by omega)
      obtain ⟨s2, c2⟩ := hfd.at (i := l + 1) (by omega)
      obtain ⟨s3, c3⟩ := hfd.at (i := q) (by omega)
      obtain ⟨s4, c4⟩ := hfe.at (i := l) (by omega)
      have hbd := hfd.lt
      have hbe := hfe.lt
      have HG := Lib.hid (show swG T.d T.e l q = fadd (fsub (T.d.getD q 0) (T.d.getD l 0)) (fdiv (T.e.getD l 0) (fadd (fdiv (fsub (T.d.getD (l + 1) 0) (T.d.getD l 0)) (fmul 4611686018427387904 (T.e.getD l 0))) (sgnW (hypW (fdiv (fsub (T.d.getD (l + 1) 0) (T.d.getD l 0)) (fmul 4611686018427387904 (T.e.getD l 0))) 4607182418800017408) (fdiv (fsub (T.d.getD (l + 1) 0) (T.d.getD l 0)) (fmul 4611686018427387904 (T.e.getD l 0)))))) from rfl)
      clear hfd hfe hTd hTe HF
      generalize T.d.getD q 0 = xm at *
      generalize T.d.getD (l + 1) 0 = xk at *
      generalize T.d.getD l 0 = xl at *
      generalize T.e.getD l 0 = el at *
      go_upto_region 21 with ((refine wpList_flt rfl rfl rfl rfl rfl ?_; intro K hK _ _; go_frame; refine hK _ _ ?_; clear hK K))
      rename_i s0 n0 Kq aq
      simp only [fmul_rawl, fmul_rawr, fadd_rawl, fadd_rawr, fsub_rawl, fsub_rawr, fdiv_rawl, fdiv_rawr]
      have hdA : Below w1.heap.size w1 (w1.drewN n0) := below_drewN _ (Below.refl _ _)
      replace c1 := ((below_cells hdA).1 _ l hbd).trans c1
      replace c2 := ((below_cells hdA).1 _ (l + 1) hbd).trans c2
      replace c3 := ((below_cells hdA).1 _ q hbd).trans c3
      replace c4 := ((below_cells hdA).1 _ l hbe).trans c4
      replace hbd : bd < (w1.drewN n0).heap.size := hbd
      replace hbe : be < (w1.drewN n0).heap.size := hbe
      have HdA := Lib.hid hdA
      clear hdA
      generalize w1.drewN n0 = wA at *
      refine wp_region_nqb 12 (fun _ _ _ => False) (by kernel_rfl) (by kernel_rfl) ?_
      intro C R hc hb' hb2 hd hR
      simp only [List.take_succ_cons, List.take_zero]
      repeat (
        first
          | (refine nqW_plain (fun K hK => ?_))
          | (refine nqW_step (fun K hK => ?_); go_simp)
        first
          | (refine nq_move rfl ?_; go_simp; refine hK _ ?_; clear hK K)
          | (refine nq_assign rfl ?_; go_simp; refine hK _ ?_; clear hK K)
          | (refine nq_flt rfl rfl rfl rfl hd ?_; intro _; go_frame; refine hK _ ?_; clear hK K)
          | (refine nq_same ?_; intro w' hw'; go_simp; (try go_bits); refine hK _ ?_; clear hK K hw' w')
          | (refine nq_same ?_; intro w' hw'; go_simp; rw [if_pos (by omega)]; go_simp; (try go_bits); refine hK _ ?_; clear hK K hw' w')
          | (go_simp; refine hK _ ?_; clear hK K))
      refine nqW_nil (hR _ ?_)
      clear hc hb' hb2 hd hR
      intro w' hw'
      simp only [List.drop]
      rename_i sA sB
      (try simp only [fmul_rawl, fmul_rawr, fadd_rawl, fadd_rawr, fsub_rawl, fsub_rawr, fdiv_rawl, fdiv_rawr])
      have hB2 : Below w1.heap.size w1 w' := below_step HdA.out HdA.out.size hw'
      have k1 := ((below_cells hw').1 _ l hbd).trans c1
      have k3 := ((below_cells hw').1 _ q hbd).trans c3
      have k4 := ((below_cells hw').1 _ l hbe).trans c4
      have b2 := hw'.size
      have hbd2 : bd < w'.heap.size := by omega
      have hbe2 : be < w'.heap.size := by omega
      generalize hgv : fdiv (fsub xk xl) (fmul 4611686018427387904 el) = g at *
      have hgl : g < 18446744073709551616 := by rw [← hgv]; exact fdiv_lt _ _
      clear c1 c2 c3 c4 hw' hbd hbe hgv
      generalize w' = w2 at *
      go_wp2_with fail
      refine (RHyp1 g sB hgl _).mono ?_
      rintro r w3 ⟨⟨sr, rfl⟩, hb3⟩
      have hB3 := below_step hB2 hB2.size hb3
      have b3 := hb3.size
      have m1 := ((below_cells hb3).1 _ l hbd2).trans k1
      have m3 := ((below_cells hb3).1 _ q hbd2).trans k3
      have m4 := ((below_cells hb3).1 _ l hbe2).trans k4
      have hbd3 : bd < w3.heap.size := by omega
      have hbe3 : be < w3.heap.size := by omega
      have hnn : isnan g = true → isnan (hypW g 4607182418800017408) = true := fun h => hyp_nan h
      have hrl := hypW_lt g 4607182418800017408
      generalize hypW g 4607182418800017408 = rr at *
      have HSg := Lib.hid (fun W => RSignF rr sr g sB hrl hgl hnn W)
      have HB3 := Lib.hid hB3
      clear k1 k3 k4 hb3 hB2 hB3 hbd2 hbe2 b2 b3 hnn hrl
      dsimp only
      go_wp2_with fail
      refine (HSg.out _).mono ?_
      rintro r w4 ⟨⟨su, rfl⟩, rfl⟩
      dsimp only
      go_upto_region 25 with ((refine wpList_flt rfl rfl rfl rfl rfl ?_; intro K hK _ _; go_frame; refine hK _ _ ?_; clear hK K))
      rename_i s5 n5 s6 n6 Kq2 aq2
      simp only [fmul_rawl, fmul_rawr, fadd_rawl, fadd_rawr, fsub_rawl, fsub_rawr, fdiv_rawl, fdiv_rawr]
      have hdB : Below w3.heap.size w3 ((w3.drewN n5).drewN n6) := below_drewN _ (below_drewN _ (Below.refl _ _))
      replace m1 := ((below_cells hdB).1 _ l hbd3).trans m1
      replace m3 := ((below_cells hdB).1 _ q hbd3).trans m3
      have hbd4 : bd < ((w3.drewN n5).drewN n6).heap.size := hbd3
      have HdB := Lib.hid hdB
      clear hdB m4 hbd3 hbe3
      generalize (w3.drewN n5).drewN n6 = wB at *
      refine wp_region_nqb 11 (fun _ _ _ => False) (by kernel_rfl) (by kernel_rfl) ?_
      intro C R hc hb' hb2 hd hR
      simp only [List.take_succ_cons, List.take_zero]
      repeat (
        first
          | (refine nqW_plain (fun K hK => ?_))
          | (refine nqW_step (fun K hK => ?_); go_simp)
        first
          | (refine nq_move rfl ?_; go_simp; refine hK _ ?_; clear hK K)
          | (refine nq_assign rfl ?_; go_simp; refine hK _ ?_; clear hK K)
          | (refine nq_flt rfl rfl rfl rfl hd ?_; intro _; go_frame; refine hK _ ?_; clear hK K)
          | (refine nq_same ?_; intro w' hw'; go_simp; (try go_bits); refine hK _ ?_; clear hK K hw' w')
          | (refine nq_same ?_; intro w' hw'; go_simp; rw [if_pos (by omega)]; go_simp; (try go_bits); refine hK _ ?_; clear hK K hw' w')
          | (go_simp; refine hK _ ?_; clear hK K))
      refine nqW_nil (hR _ ?_)
      clear hc hb' hb2 hd hR
      intro w' hw'
      simp only [List.drop]
      rename_i s7 s8
      (try simp only [fmul_rawl, fmul_rawr, fadd_rawl, fadd_rawr, fsub_rawl, fsub_rawr, fdiv_rawl, fdiv_rawr])
      have hBC := below_step (below_step HB3.out HB3.out.size HdB.out) (Nat.le_trans HB3.out.size HdB.out.size) hw'
      have HC := Lib.hid (show _ ∧ _ from ⟨hBC, HT1.out.below hBC⟩)
      clear m1 m3 hw' hBC hbd4
      generalize w' = wC at *
      have hw5 : wrap64 ((q : Int) - 1) = (q : Int) - 1 := by unfold wrap64; omega
      go_upto_block 6 with (fail)
      (try simp only [hw5])
      obtain ⟨_, hfd⟩ := HC.out.2.d.flb (by rw [HC.out.2.dl]; omega)
      obtain ⟨_, hfe⟩ := HC.out.2.e.flb (by rw [HC.out.2.el]; omega)
      have HFC := Lib.hid (And.intro hfd hfe)
      clear hfd hfe
      refine sweep_steps_q _ _ _ _ _ _ _ _ _ _ _ _ _ _ _ _ _ _ _ _ _ _ _ _ _ _ _ _ _ _ _ _ _ _ _ _ _ _ _ _ _ _ _ _ _ _ _ _ _ _ _ _ _ _ _ _ _ _ _ _ _ _ _ _ _ _ _ _ _ _ _ _ _ _ _ _ _ _ _ _ _ _ _ _ _ _ _ _ _ _ _ _ _ _ _ _ _ _ _ _ _ _ _ _ _ _ _ _ _ _ _ _ _ _ _ _ _ _ _ _ _ _ _ _ _ _ _ _ _ _ _ _ _ _ _ _ _ _ _ _ _ _ _ _ _ _ _ _ _ _ _ _ _ _ _ _ _ _ _ _ _ _ _ _ _ _ _ _ _ _ _ _ _ _ _ _ _ _ _ _ _ _ _ _ _ _ _ _ _ _ _ _ _ _ _ _ _ _ _ _ _ _ _ _ _ _ _ _ _ _ _ _ _ _ _ _ _ _ _ _ _ _ _ _ _ _ _ _ _ _ _ _ _ _ _ _ _ _ _ _ _ _ _ _ _ _ _ _ _ _ _ _ _ _ _ _ _ _ _ _ _ _ _ _ _ _ _ _ _ _ _ _ _ _ _ _ _ _ _ _ _ _ _ _ _ _ _ _ _ _ _ _ _ _ _ _ _ _ _ X bd be zb rows n cd ce zc l q M (fadd (fsub xm xl) (fdiv el (fadd g (sgnW rr g)))) s8 (n : Int) za T.d T.e T.z wC HC.out.2.box HFC.out.1 HFC.out.2 HC.out.2.z HC.out.2.dl HC.out.2.el HC.out.2.zl HD.out.hM (fadd_lt _ _) (by omega) hq2 hn512 HD.out.hr (HD.out.xd (by omega)) HD.out.xe HD.out.xz (HD.out.de (by omega)) (HD.out.dz (by omega)) HD.out.ez _ ?_
      intro u17 u18 u20 u21 u22 u23 u24 u25 u26 u27 u28 u29 u30 u31 u32 u33 u34 u35 u136 u137 u138 u139 u140 u141 u142 u143 u144 u145 u146 u147 u148 u149 u150 u151 u152 u153 u154 u155 u156 u157 u158 u159 u160 u161 u162 u163 u164 u165 u166 u167 u168 u169 u170 u171 u172 u173 u174 u175 u176 u177 u178 u179 u180 u181 u182 u183 u184 u185 u186 u187 u188 u189 u190 u191 u192 u193 u194 u195 u196 u197 u198 u199 u200 u201 u202 u203 u204 u205 u206 u207 u208 u209 u210 u211 u212 u213 u214 u215 u216 u217 u218 u219 u220 u221 u222 u223 u224 u225 u226 u227 u228 u229 u230 u231 u232 u233 u234 u235 u236 u237 u238 u239 u240 u241 u242 u243 u244 u245 u246 u247 u248 u249 u250 u251 u252 u253 u254 u255 u256 u257 u258 u259 u260 u261 u262 u263 u264 u265 u266 u267 u268 u269 u270 u271 u272 u273 u274 u275 u276 u277 u278 u279 u280 u281 wE hcut
      obtain ⟨yy, t17, t22, hy, rfl, rfl, rfl, f1, f2, f3, f4⟩ := hcut
      have hsw : sweepL n rows T l q = swE l q yy := by
        unfold sweepL
        rw [hy]
        unfold sw0
        rw [HG.out]
      have hln := swL_len n rows l q (q - l) ⟨T.d, T.e, T.z, fadd (fsub xm xl) (fdiv el (fadd g (sgnW rr g))), 4607182418800017408, 4607182418800017408, 0⟩
      rw [← hy] at hln
      obtain ⟨l1, l2, l3⟩ := hln
      have hbb : Bls [bd, be, zb] w1.heap.size w1 wE := (Bls.of HC.out.1).trans (f4.mono HC.out.1.size)
      obtain ⟨S, o⟩ := yy
      have hJ := HJ.out
      have hKJ := HKJ.out
      simp only at l1 l2 f1 f2 f3
      have hSd : S.d.length = n := l1.trans HT1.out.dl
      have hSe : S.e.length = n := l2.trans HT1.out.el
      clear hy l1 l2 l3 hw5
      cases o
      · have hE : sweepL n rows T l q = ⟨S.d.set l (fsub (S.d.getD l 0) S.p), (S.e.set l S.g).set q 0, S.z⟩ := hsw
        obtain ⟨u1, c1⟩ := f1.at (i := l) (by omega)
        obtain ⟨u2, c2⟩ := f2.at (i := l) (by omega)
        obtain ⟨u3, c3⟩ := f2.at (i := q) (by omega)
        have hbd := f1.lt
        have hbe := f2.lt
        have fzd := f1.frozen
        have fze := f2.frozen
        have HS := Lib.hid (show _ ∧ _ ∧ _ ∧ _ ∧ _ from ⟨f1, f2, f3, hbb, hE⟩)
        have hdz := HD.out.de (by omega)
        have hdz' : be ≠ bd := Ne.symm hdz
        have hql2 : ¬ l = q := fun h => hql h.symm
        clear f1 f2 f3 f4 hbb hE hsw hSd hSe
        generalize S.d.getD l 0 = dl at *
        go_wp2_with (first | (refine wpList_flt rfl rfl rfl rfl rfl ?_; intro K hK _ _; go_frame; refine hK _ _ ?_; clear hK K))
        rename_i su nu
        go_meet
        case rel =>
          obtain ⟨f1, f2, f3, hbb, hE⟩ := HS.out
          have hdr : Below wE.heap.size wE (wE.drewN nu) := below_drewN nu (Below.refl _ wE)
          have h4 := HD.out.de (by omega)
          have h5 := HD.out.dz (by omega)
          have h6 := HD.out.ez
          have g1 := (((f1.below hdr).set l (fsub dl S.p) su).other h4 l (.float .f64 (raw S.g t17))).other h4 q (.float .f64 0)
          have g2 := (((f2.below hdr).other (Ne.symm h4) l (.float .f64 (raw (fsub dl S.p) su))).set l S.g t17).set q 0 0
          rw [raw_of_not (show isnan 0 = false by kernel_rfl)] at g2
          have g3 := (((f3.below hdr).other (Ne.symm h5) l (.float .f64 (raw (fsub dl S.p) su))).other (Ne.symm h6) l (.float .f64 (raw S.g t17))).other (Ne.symm h6) q (.float .f64 0)
          have m1 : bd ∈ [bd, be, zb] := by simp
          have m2 : be ∈ [bd, be, zb] := by simp
          have g4 := (((hbb.step hbb.size (Bls.of hdr)).set m1 l (.float .f64 (raw (fsub dl S.p) su))).set m2 l (.float .f64 (raw S.g t17))).set m2 q (.float .f64 0)
          exact ⟨hql, hm30, by go_num, by go_num, RqW.next HD.out (by omega) HT1.out g4 (by rw [hE]; exact g1) (by rw [hE]; exact g2) (by rw [hE]; exact g3)⟩
      · have hE : sweepL n rows T l q = ⟨S.d, S.e, S.z⟩ := hsw
        have HS := Lib.hid (show _ ∧ _ ∧ _ ∧ _ ∧ _ from ⟨f1, f2, f3, hbb, hE⟩)
        clear f1 f2 f3 f4 hbb hE hsw hSd hSe
        go_wp2_with fail
        go_meet
        case rel =>
          obtain ⟨f1, f2, f3, hbb, hE⟩ := HS.out
          exact ⟨hql, hm30, by go_num, by go_num, RqW.next HD.out (by omega) HT1.out hbb (by rw [hE]; exact f1) (by rw [hE]; exact f2) (by rw [hE]; exact f3)⟩
set_option maxRecDepth 1000000 in
theorem solve_round_q (c0 c1 c2 c3 c4 c6 c7 c15 c16 c17 c18 c19 c20 c21 c22 c23 c24 c25 c26 c27 c28 c29 c30 c31 c32 c33 c34 c35 c36 c37 c38 c39 c40 c41 c42 c43 c44 c45 c46 c47 c48 c49 c50 c51 c52 c53 c54 c55 c56 c57 c58 c59 c60 c61 c62 c63 c64 c65 c66 c67 c68 c69 c70 c71 c72 c73 c74 c75 c76 c77 c78 c79 c80 c81 c82 c83 c84 c85 c86 c87 c88 c89 c90 c91 c92 c93 c94 c95 c96 c97 c98 c99 c100 c101 c102 c103 c104 c105 c106 c107 c108 c109 c110 c111 c112 c113 c114 c115 c116 c117 c118 c119 c120 c121 c122 c123 c124 c125 c126 c127 c128 c129 c130 c131 c132 c133 c134 c135 c136 c137 c138 c139 c140 c141 c142 c143 c144 c145 c146 c147 c148 c149 c150 c151 c152 c153 c154 c155 c156 c157 c158 c159 c160 c161 c162 c163 c164 c165 c166 c167 c168 c169 c170 c171 c172 c173 c174 c175 c176 c177 c178 c179 c180 c181 c182 c183 c184 c185 c186 c187 c188 c189 c190 c191 c192 c193 c194 c195 c196 c197 c198 c199 c200 c201 c202 c203 c204 c205 c206 c207 c208 c209 c210 c211 c212 c213 c214 c215 c216 c217 c218 c219 c220 c221 c222 c223 c224 c225 c226 c227 c228 c229 c230 c231 c232 c233 c234 c235 c236 c237 c238 c239 c240 c241 c242 c243 c244 c245 c246 c247 c248 c249 c250 c251 c252 c253 c254 c255 c256 c257 c258 c259 c260 c261 c262 c263 c264 c265 c266 c267 c268 c269 c270 c271 c272 c273 c274 c275 c276 c277 c278 c279 c280 c281 c282 c283 c284 c285 c286 c287 c288 c289 c290 c291 c292 c293 c294 c295 c296 c297 c298 c299 c300 c301 c302 c303 c304 c305 c306 c307 c308 c309 c310 : Value) (X bd be zb rows n cd ce zc l m sm M : Nat) (za : Option Addr) (T : QlS) (w0 w : World) (hD : QlD w0 X bd be zb zc rows n n M) (hT : RqW w0 w X (some ⟨bd, 0, none⟩) (some ⟨be, 0, none⟩) za bd be zb cd ce zc rows n n M T) (hl : l < n) (hm : m ≤ 30) (hsm : sm ≤ 262144) (Q : Exit → Act → World → Prop)
    (hQ : ∀ (u4 u6 u7 u12 u14 u15 u16 u17 u18 u19 u20 u21 u22 u23 u24 u25 u26 u27 u28 u29 u30 u31 u32 u33 u34 u35 u54 u55 u56 u57 u58 u59 u60 u61 u62 u63 u64 u65 u66 u67 u68 u69 u70 u71 u72 u73 u74 u75 u76 u77 u78 u79 u80 u81 u82 u83 u84 u85 u86 u87 u88 u89 u90 u91 u92 u93 u94 u95 u96 u97 u98 u99 u100 u101 u102 u103 u104 u105 u106 u107 u108 u109 u110 u111 u112 u113 u114 u115 u116 u117 u118 u119 u120 u121 u122 u123 u124 u125 u126 u127 u128 u129 u130 u131 u132 u133 u134 u135 u136 u137 u138 u139 u140 u141 u142 u143 u144 u145 u146 u147 u148 u149 u150 u151 u152 u153 u154 u155 u156 u157 u158 u159 u160 u161 u162 u163 u164 u165 u166 u167 u168 u169 u170 u171 u172 u173 u174 u175 u176 u177 u178 u179 u180 u181 u182 u183 u184 u185 u186 u187 u188 u189 u190 u191 u192 u193 u194 u195 u196 u197 u198 u199 u200 u201 u202 u203 u204 u205 u206 u207 u208 u209 u210 u211 u212 u213 u214 u215 u216 u217 u218 u219 u220 u221 u222 u223 u224 u225 u226 u227 u228 u229 u230 u231 u232 u233 u234 u235 u236 u237 u238 u239 u240 u241 u242 u243 u244 u245 u246 u247 u248 u249 u250 u251 u252 u253 u254 u255 u256 u257 u258 u259 u260 u261 u262 u263 u264 u265 u266 u267 u268 u269 u270 u271 u272 u273 u274 u275 u276 u277 u278 u279 u280 u281 u282 u283 u284 u285 u286 u287 u288 u289 u290 u291 u292 u293 u294 u295 u296 u297 u298 u299 : Value) (w' : World), (endL T.d T.e T.d.length l ≠ l ∧ m ≠ 30 ∧ u12 = .int .i64 (sm + 1 : Nat) ∧ u14 = .int .i64 (m + 1 : Nat) ∧ RqW w0 w' X (some ⟨bd, 0, none⟩) (some ⟨be, 0, none⟩) za bd be zb cd ce zc rows n n M (sweepL n rows T l (endL T.d T.e T.d.length l))) → Q .normal { tmps := #[c0, c1, c2, c3, u4, .pointer (some ⟨w0.heap.size + 1 + 1, 0, none⟩), u6, u7, .int .i64 n, .slice (some ⟨bd, 0, none⟩) n cd, .slice (some ⟨be, 0, none⟩) n ce, .pointer (some ⟨X, 0, none⟩), u12, .int .i64 l, u14, u15, u16, u17, u18, u19, u20, u21, u22, u23, u24, u25, u26, u27, u28, u29, u30, u31, u32, u33, u34, u35, c36, c37, c38, c39, c40, c41, c42, c43, c44, c45, c46, c47, c48, c49, c50, c51, c52, c53, u54, u55, u56, u57, u58, u59, u60, u61, u62, u63, u64, u65, u66, u67, u68, u69, u70, u71, u72, u73, u74, u75, u76, u77, u78, u79, u80, u81, u82, u83, u84, u85, u86, u87, u88, u89, u90, u91, u92, u93, u94, u95, u96, u97, u98, u99, u100, u101, u102, u103, u104, u105, u106, u107, u108, u109, u110, u111, u112, u113, u114, u115, u116, u117, u118, u119, u120, u121, u122, u123, u124, u125, u126, u127, u128, u129, u130, u131, u132, u133, u134, u135, u136, u137, u138, u139, u140, u141, u142, u143, u144, u145, u146, u147, u148, u149, u150, u151, u152, u153, u154, u155, u156, u157, u158, u159, u160, u161, u162, u163, u164, u165, u166, u167, u168, u169, u170, u171, u172, u173, u174, u175, u176, u177, u178, u179, u180, u181, u182, u183, u184, u185, u186, u187, u188, u189, u190, u191, u192, u193, u194, u195, u196, u197, u198, u199, u200, u201, u202, u203, u204, u205, u206, u207, u208, u209, u210, u211, u212, u213, u214, u215, u216, u217, u218, u219, u220, u221, u222, u223, u224, u225, u226, u227, u228, u229, u230, u231, u232, u233, u234, u235, u236, u237, u238, u239, u240, u241, u242, u243, u244, u245, u246, u247, u248, u249, u250, u251, u252, u253, u254, u255, u256, u257, u258, u259, u260, u261, u262, u263, u264, u265, u266, u267, u268, u269, u270, u271, u272, u273, u274, u275, u276, u277, u278, u279, u280, u281, u282, u283, u284, u285, u286, u287, u288, u289, u290, u291, u292, u293, u294, u295, u296, u297, u298, u299, c300, c301, c302, c303, c304, c305, c306, c307, c308, c309, c310], defers := [] } w')
    (hX : ∀ (u4 u6 u7 u12 u14 u15 u16 u17 u18 u19 u20 u21 u22 u23 u24 u25 u26 u27 u28 u29 u30 u31 u32 u33 u34 u35 u54 u55 u56 u57 u58 u59 u60 u61 u62 u63 u64 u65 u66 u67 u68 u69 u70 u71 u72 u73 u74 u75 u76 u77 u78 u79 u80 u81 u82 u83 u84 u85 u86 u87 u88 u89 u90 u91 u92 u93 u94 u95 u96 u97 u98 u99 u100 u101 u102 u103 u104 u105 u106 u107 u108 u109 u110 u111 u112 u113 u114 u115 u116 u117 u118 u119 u120 u121 u122 u123 u124 u125 u126 u127 u128 u129 u130 u131 u132 u133 u134 u135 u136 u137 u138 u139 u140 u141 u142 u143 u144 u145 u146 u147 u148 u149 u150 u151 u152 u153 u154 u155 u156 u157 u158 u159 u160 u161 u162 u163 u164 u165 u166 u167 u168 u169 u170 u171 u172 u173 u174 u175 u176 u177 u178 u179 u180 u181 u182 u183 u184 u185 u186 u187 u188 u189 u190 u191 u192 u193 u194 u195 u196 u197 u198 u199 u200 u201 u202 u203 u204 u205 u206 u207 u208 u209 u210 u211 u212 u213 u214 u215 u216 u217 u218 u219 u220 u221 u222 u223 u224 u225 u226 u227 u228 u229 u230 u231 u232 u233 u234 u235 u236 u237 u238 u239 u240 u241 u242 u243 u244 u245 u246 u247 u248 u249 u250 u251 u252 u253 u254 u255 u256 u257 u258 u259 u260 u261 u262 u263 u264 u265 u266 u267 u268 u269 u270 u271 u272 u273 u274 u275 u276 u277 u278 u279 u280 u281 u282 u283 u284 u285 u286 u287 u288 u289 u290 u291 u292 u293 u294 u295 u296 u297 u298 u299 : Value) (w' : World), (endL T.d T.e T.d.length l = l ∧ u12 = .int .i64 (sm : Nat) ∧ u14 = .int .i64 (m : Nat) ∧ RqW w0 w' X (some ⟨bd, 0, none⟩) (some ⟨be, 0, none⟩) za bd be zb cd ce zc rows n n M T) → Q (.exit 2) { tmps := #[c0, c1, c2, c3, u4, .pointer (some ⟨w0.heap.size + 1 + 1, 0, none⟩), u6, u7, .int .i64 n, .slice (some ⟨bd, 0, none⟩) n cd, .slice (some ⟨be, 0, none⟩) n ce, .pointer (some ⟨X, 0, none⟩), u12, .int .i64 l, u14, u15, u16, u17, u18, u19, u20, u21, u22, u23, u24, u25, u26, u27, u28, u29, u30, u31, u32, u33, u34, u35, c36, c37, c38, c39, c40, c41, c42, c43, c44, c45, c46, c47, c48, c49, c50, c51, c52, c53, u54, u55, u56, u57, u58, u59, u60, u61, u62, u63, u64, u65, u66, u67, u68, u69, u70, u71, u72, u73, u74, u75, u76, u77, u78, u79, u80, u81, u82, u83, u84, u85, u86, u87, u88, u89, u90, u91, u92, u93, u94, u95, u96, u97, u98, u99, u100, u101, u102, u103, u104, u105, u106, u107, u108, u109, u110, u111, u112, u113, u114, u115, u116, u117, u118, u119, u120, u121, u122, u123, u124, u125, u126, u127, u128, u129, u130, u131, u132, u133, u134, u135, u136, u137, u138, u139, u140, u141, u142, u143, u144, u145, u146, u147, u148, u149, u150, u151, u152, u153, u154, u155, u156, u157, u158, u159, u160, u161, u162, u163, u164, u165, u166, u167, u168, u169, u170, u171, u172, u173, u174, u175, u176, u177, u178, u179, u180, u181, u182, u183, u184, u185, u186, u187, u188, u189, u190, u191, u192, u193, u194, u195, u196, u197, u198, u199, u200, u201, u202, u203, u204, u205, u206, u207, u208, u209, u210, u211, u212, u213, u214, u215, u216, u217, u218, u219, u220, u221, u222, u223, u224, u225, u226, u227, u228, u229, u230, u231, u232, u233, u234, u235, u236, u237, u238, u239, u240, u241, u242, u243, u244, u245, u246, u247, u248, u249, u250, u251, u252, u253, u254, u255, u256, u257, u258, u259, u260, u261, u262, u263, u264, u265, u266, u267, u268, u269, u270, u271, u272, u273, u274, u275, u276, u277, u278, u279, u280, u281, u282, u283, u284, u285, u286, u287, u288, u289, u290, u291, u292, u293, u294, u295, u296, u297, u298, u299, c300, c301, c302, c303, c304, c305, c306, c307, c308, c309, c310], defers := [] } w')
    (hR : ∀ (u4 u6 u7 u12 u14 u15 u16 u17 u18 u19 u20 u21 u22 u23 u24 u25 u26 u27 u28 u29 u30 u31 u32 u33 u34 u35 u54 u55 u56 u57 u58 u59 u60 u61 u62 u63 u64 u65 u66 u67 u68 u69 u70 u71 u72 u73 u74 u75 u76 u77 u78 u79 u80 u81 u82 u83 u84 u85 u86 u87 u88 u89 u90 u91 u92 u93 u94 u95 u96 u97 u98 u99 u100 u101 u102 u103 u104 u105 u106 u107 u108 u109 u110 u111 u112 u113 u114 u115 u116 u117 u118 u119 u120 u121 u122 u123 u124 u125 u126 u127 u128 u129 u130 u131 u132 u133 u134 u135 u136 u137 u138 u139 u140 u141 u142 u143 u144 u145 u146 u147 u148 u149 u150 u151 u152 u153 u154 u155 u156 u157 u158 u159 u160 u161 u162 u163 u164 u165 u166 u167 u168 u169 u170 u171 u172 u173 u174 u175 u176 u177 u178 u179 u180 u181 u182 u183 u184 u185 u186 u187 u188 u189 u190 u191 u192 u193 u194 u195 u196 u197 u198 u199 u200 u201 u202 u203 u204 u205 u206 u207 u208 u209 u210 u211 u212 u213 u214 u215 u216 u217 u218 u219 u220 u221 u222 u223 u224 u225 u226 u227 u228 u229 u230 u231 u232 u233 u234 u235 u236 u237 u238 u239 u240 u241 u242 u243 u244 u245 u246 u247 u248 u249 u250 u251 u252 u253 u254 u255 u256 u257 u258 u259 u260 u261 u262 u263 u264 u265 u266 u267 u268 u269 u270 u271 u272 u273 u274 u275 u276 u277 u278 u279 u280 u281 u282 u283 u284 u285 u286 u287 u288 u289 u290 u291 u292 u293 u294 u295 u296 u297 u298 u299 : Value) (w' : World), (endL T.d T.e T.d.length l ≠ l ∧ m = 30 ∧ u4 = .slice none 0 0 ∧ u6 = .int .i64 (sm : Nat) ∧ u7 = .bool false ∧ Box w' (w0.heap.size + 1 + 1) [.int .i64 0, .int .i64 0, .slice none 0 0] ∧ Below w0.heap.size w0 w') → Q .ret { tmps := #[c0, c1, c2, c3, u4, .pointer (some ⟨w0.heap.size + 1 + 1, 0, none⟩), u6, u7, .int .i64 n, .slice (some ⟨bd, 0, none⟩) n cd, .slice (some ⟨be, 0, none⟩) n ce, .pointer (some ⟨X, 0, none⟩), u12, .int .i64 l, u14, u15, u16, u17, u18, u19, u20, u21, u22, u23, u24, u25, u26, u27, u28, u29, u30, u31, u32, u33, u34, u35, c36, c37, c38, c39, c40, c41, c42, c43, c44, c45, c46, c47, c48, c49, c50, c51, c52, c53, u54, u55, u56, u57, u58, u59, u60, u61, u62, u63, u64, u65, u66, u67, u68, u69, u70, u71, u72, u73, u74, u75, u76, u77, u78, u79, u80, u81, u82, u83, u84, u85, u86, u87, u88, u89, u90, u91, u92, u93, u94, u95, u96, u97, u98, u99, u100, u101, u102, u103, u104, u105, u106, u107, u108, u109, u110, u111, u112, u113, u114, u115, u116, u117, u118, u119, u120, u121, u122, u123, u124, u125, u126, u127, u128, u129, u130, u131, u132, u133, u134, u135, u136, u137, u138, u139, u140, u141, u142, u143, u144, u145, u146, u147, u148, u149, u150, u151, u152, u153, u154, u155, u156, u157, u158, u159, u160, u161, u162, u163, u164, u165, u166, u167, u168, u169, u170, u171, u172, u173, u174, u175, u176, u177, u178, u179, u180, u181, u182, u183, u184, u185, u186, u187, u188, u189, u190, u191, u192, u193, u194, u195, u196, u197, u198, u199, u200, u201, u202, u203, u204, u205, u206, u207, u208, u209, u210, u211, u212, u213, u214, u215, u216, u217, u218, u219, u220, u221, u222, u223, u224, u225, u226, u227, u228, u229, u230, u231, u232, u233, u234, u235, u236, u237, u238, u239, u240, u241, u242, u243, u244, u245, u246, u247, u248, u249, u250, u251, u252, u253, u254, u255, u256, u257, u258, u259, u260, u261, u262, u263, u264, u265, u266, u267, u268, u269, u270, u271, u272, u273, u274, u275, u276, u277, u278, u279, u280, u281, u282, u283, u284, u285, u286, u287, u288, u289, u290, u291, u292, u293, u294, u295, u296, u297, u298, u299, c300, c301, c302, c303, c304, c305, c306, c307, c308, c309, c310], defers := [] } w') :
    Code.wp Try.prog ((findBlock (Try.f14.body.getD .skip) 3).getD .skip) Q { tmps := #[c0, c1, c2, c3, c4, .pointer (some ⟨w0.heap.size + 1 + 1, 0, none⟩), c6, c7, .int .i64 n, .slice (some ⟨bd, 0, none⟩) n cd, .slice (some ⟨be, 0, none⟩) n ce, .pointer (some ⟨X, 0, none⟩), .int .i64 (sm : Nat), .int .i64 l, .int .i64 (m : Nat), c15, c16, c17, c18, c19, c20, c21, c22, c23, c24, c25, c26, c27, c28, c29, c30, c31, c32, c33, c34, c35, c36, c37, c38, c39, c40, c41, c42, c43, c44, c45, c46, c47, c48, c49, c50, c51, c52, c53, c54, c55, c56, c57, c58, c59, c60, c61, c62, c63, c64, c65, c66, c67, c68, c69, c70, c71, c72, c73, c74, c75, c76, c77, c78, c79, c80, c81, c82, c83, c84, c85, c86, c87, c88, c89, c90, c91, c92, c93, c94, c95, c96, c97, c98, c99, c100, c101, c102, c103, c104, c105, c106, c107, c108, c109, c110, c111, c112, c113, c114, c115, c116, c117, c118, c119, c120, c121, c122, c123, c124, c125, c126, c127, c128, c129, c130, c131, c132, c133, c134, c135, c136, c137, c138, c139, c140, c141, c142, c143, c144, c145, c146, c147, c148, c149, c150, c151, c152, c153, c154, c155, c156, c157, c158, c159, c160, c161, c162, c163, c164, c165, c166, c167, c168, c169, c170, c171, c172, c173, c174, c175, c176, c177, c178, c179, c180, c181, c182, c183, c184, c185, c186, c187, c188, c189, c190, c191, c192, c193, c194, c195, c196, c197, c198, c199, c200, c201, c202, c203, c204, c205, c206, c207, c208, c209, c210, c211, c212, c213, c214, c215, c216, c217, c218, c219, c220, c221, c222, c223, c224, c225, c226, c227, c228, c229, c230, c231, c232, c233, c234, c235, c236, c237, c238, c239, c240, c241, c242, c243, c244, c245, c246, c247, c248, c249, c250, c251, c252, c253, c254, c255, c256, c257, c258, c259, c260, c261, c262, c263, c264, c265, c266, c267, c268, c269, c270, c271, c272, c273, c274, c275, c276, c277, c278, c279, c280, c281, c282, c283, c284, c285, c286, c287, c288, c289, c290, c291, c292, c293, c294, c295, c296, c297, c298, c299, c300, c301, c302, c303, c304, c305, c306, c307, c308, c309, c310], defers := [] } w := by
  refine wp_mono (solve_round c0 c1 c2 c3 c4 c6 c7 c15 c16 c17 c18 c19 c20 c21 c22 c23 c24 c25 c26 c27 c28 c29 c30 c31 c32 c33 c34 c35 c36 c37 c38 c39 c40 c41 c42 c43 c44 c45 c46 c47 c48 c49 c50 c51 c52 c53 c54 c55 c56 c57 c58 c59 c60 c61 c62 c63 c64 c65 c66 c67 c68 c69 c70 c71 c72 c73 c74 c75 c76 c77 c78 c79 c80 c81 c82 c83 c84 c85 c86 c87 c88 c89 c90 c91 c92 c93 c94 c95 c96 c97 c98 c99 c100 c101 c102 c103 c104 c105 c106 c107 c108 c109 c110 c111 c112 c113 c114 c115 c116 c117 c118 c119 c120 c121 c122 c123 c124 c125 c126 c127 c128 c129 c130 c131 c132 c133 c134 c135 c136 c137 c138 c139 c140 c141 c142 c143 c144 c145 c146 c147 c148 c149 c150 c151 c152 c153 c154 c155 c156 c157 c158 c159 c160 c161 c162 c163 c164 c165 c166 c167 c168 c169 c170 c171 c172 c173 c174 c175 c176 c177 c178 c179 c180 c181 c182 c183 c184 c185 c186 c187 c188 c189 c190 c191 c192 c193 c194 c195 c196 c197 c198 c199 c200 c201 c202 c203 c204 c205 c206 c207 c208 c209 c210 c211 c212 c213 c214 c215 c216 c217 c218 c219 c220 c221 c222 c223 c224 c225 c226 c227 c228 c229 c230 c231 c232 c233 c234 c235 c236 c237 c238 c239 c240 c241 c242 c243 c244 c245 c246 c247 c248 c249 c250 c251 c252 c253 c254 c255 c256 c257 c258 c259 c260 c261 c262 c263 c264 c265 c266 c267 c268 c269 c270 c271 c272 c273 c274 c275 c276 c277 c278 c279 c280 c281 c282 c283 c284 c285 c286 c287 c288 c289 c290 c291 c292 c293 c294 c295 c296 c297 c298 c299 c300 c301 c302 c303 c304 c305 c306 c307 c308 c309 c310 X bd be zb rows n cd ce zc l m sm M za T w0 w hD hT hl hm hsm (fun a w => Q .normal a w) (fun a w => Q .normal a w) Q ?_ (fun _ _ h => h) ?_ ?_) (fun e a w h => by cases e <;> exact h)
  · intro a' w' h
    obtain ⟨u4, h⟩ := h
    obtain ⟨u6, h⟩ := h
    obtain ⟨u7, h⟩ := h
    obtain ⟨u12, h⟩ := h
    obtain ⟨u14, h⟩ := h
    obtain ⟨u15, h⟩ := h
    obtain ⟨u16, h⟩ := h
    obtain ⟨u17, h⟩ := h
    obtain ⟨u18, h⟩ := h
    obtain ⟨u19, h⟩ := h
    obtain ⟨u20, h⟩ := h
    obtain ⟨u21, h⟩ := h
    obtain ⟨u22, h⟩ := h
    obtain ⟨u23, h⟩ := h
    obtain ⟨u24, h⟩ := h
    obtain ⟨u25, h⟩ := h
    obtain ⟨u26, h⟩ := h
    obtain ⟨u27, h⟩ := h
    obtain ⟨u28, h⟩ := h
    obtain ⟨u29, h⟩ := h
    obtain ⟨u30, h⟩ := h
    obtain ⟨u31, h⟩ := h
    obtain ⟨u32, h⟩ := h
    obtain ⟨u33, h⟩ := h
    obtain ⟨u34, h⟩ := h
    obtain ⟨u35, h⟩ := h
    obtain ⟨u54, h⟩ := h
    obtain ⟨u55, h⟩ := h
    obtain ⟨u56, h⟩ := h
    obtain ⟨u57, h⟩ := h
    obtain ⟨u58, h⟩ := h
    obtain ⟨u59, h⟩ := h
    obtain ⟨u60, h⟩ := h
    obtain ⟨u61, h⟩ := h
    obtain ⟨u62, h⟩ := h
    obtain ⟨u63, h⟩ := h
    obtain ⟨u64, h⟩ := h
    obtain ⟨u65, h⟩ := h
    obtain ⟨u66, h⟩ := h
    obtain ⟨u67, h⟩ := h
    obtain ⟨u68, h⟩ := h
    obtain ⟨u69, h⟩ := h
    obtain ⟨u70, h⟩ := h
    obtain ⟨u71, h⟩ := h
    obtain ⟨u72, h⟩ := h
    obtain ⟨u73, h⟩ := h
    obtain ⟨u74, h⟩ := h
    obtain ⟨u75, h⟩ := h
    obtain ⟨u76, h⟩ := h
    obtain ⟨u77, h⟩ := h
    obtain ⟨u78, h⟩ := h
    obtain ⟨u79, h⟩ := h
    obtain ⟨u80, h⟩ := h
    obtain ⟨u81, h⟩ := h
    obtain ⟨u82, h⟩ := h
    obtain ⟨u83, h⟩ := h
    obtain ⟨u84, h⟩ := h
    obtain ⟨u85, h⟩ := h
    obtain ⟨u86, h⟩ := h
    obtain ⟨u87, h⟩ := h
    obtain ⟨u88, h⟩ := h
    obtain ⟨u89, h⟩ := h
    obtain ⟨u90, h⟩ := h
    obtain ⟨u91, h⟩ := h
    obtain ⟨u92, h⟩ := h
    obtain ⟨u93, h⟩ := h
    obtain ⟨u94, h⟩ := h
    obtain ⟨u95, h⟩ := h
    obtain ⟨u96, h⟩ := h
    obtain ⟨u97, h⟩ := h
    obtain ⟨u98, h⟩ := h
    obtain ⟨u99, h⟩ := h
    obtain ⟨u100, h⟩ := h
    obtain ⟨u101, h⟩ := h
    obtain ⟨u102, h⟩ := h
    obtain ⟨u103, h⟩ := h
    obtain ⟨u104, h⟩ := h
    obtain ⟨u105, h⟩ := h
    obtain ⟨u106, h⟩ := h
    obtain ⟨u107, h⟩ := h
    obtain ⟨u108, h⟩ := h
    obtain ⟨u109, h⟩ := h
    obtain ⟨u110, h⟩ := h
    obtain ⟨u111, h⟩ := h
    obtain ⟨u112, h⟩ := h
    obtain ⟨u113, h⟩ := h
    obtain ⟨u114, h⟩ := h
    obtain ⟨u115, h⟩ := h
    obtain ⟨u116, h⟩ := h
    obtain ⟨u117, h⟩ := h
    obtain ⟨u118, h⟩ := h
    obtain ⟨u119, h⟩ := h
    obtain ⟨u120, h⟩ := h
    obtain ⟨u121, h⟩ := h
    obtain ⟨u122, h⟩ := h
    obtain ⟨u123, h⟩ := h
    obtain ⟨u124, h⟩ := h
    obtain ⟨u125, h⟩ := h
    obtain ⟨u126, h⟩ := h
    obtain ⟨u127, h⟩ := h
    obtain ⟨u128, h⟩ := h
    obtain ⟨u129, h⟩ := h
    obtain ⟨u130, h⟩ := h
    obtain ⟨u131, h⟩ := h
    obtain ⟨u132, h⟩ := h
    obtain ⟨u133, h⟩ := h
    obtain ⟨u134, h⟩ := h
    obtain ⟨u135, h⟩ := h
    obtain ⟨u136, h⟩ := h
    obtain ⟨u137, h⟩ := h
    obtain ⟨u138, h⟩ := h
    obtain ⟨u139, h⟩ := h
    obtain ⟨u140, h⟩ := h
    obtain ⟨u141, h⟩ := h
    obtain ⟨u142, h⟩ := h
    obtain ⟨u143, h⟩ := h
    obtain ⟨u144, h⟩ := h
    obtain ⟨u145, h⟩ := h
    obtain ⟨u146, h⟩ := h
    obtain ⟨u147, h⟩ := h
    obtain ⟨u148, h⟩ := h
    obtain ⟨u149, h⟩ := h
    obtain ⟨u150, h⟩ := h
    obtain ⟨u151, h⟩ := h
    obtain ⟨u152, h⟩ := h
    obtain ⟨u153, h⟩ := h
    obtain ⟨u154, h⟩ := h
    obtain ⟨u155, h⟩ := h
    obtain ⟨u156, h⟩ := h
    obtain ⟨u157, h⟩ := h
    obtain ⟨u158, h⟩ := h
    obtain ⟨u159, h⟩ := h
    obtain ⟨u160, h⟩ := h
    obtain ⟨u161, h⟩ := h
    obtain ⟨u162, h⟩ := h
    obtain ⟨u163, h⟩ := h
    obtain ⟨u164, h⟩ := h
    obtain ⟨u165, h⟩ := h
    obtain ⟨u166, h⟩ := h
    obtain ⟨u167, h⟩ := h
    obtain ⟨u168, h⟩ := h
    obtain ⟨u169, h⟩ := h
    obtain ⟨u170, h⟩ := h
    obtain ⟨u171, h⟩ := h
    obtain ⟨u172, h⟩ := h
    obtain ⟨u173, h⟩ := h
    obtain ⟨u174, h⟩ := h
    obtain ⟨u175, h⟩ := h
    obtain ⟨u176, h⟩ := h
    obtain ⟨u177, h⟩ := h
    obtain ⟨u178, h⟩ := h
    obtain ⟨u179, h⟩ := h
    obtain ⟨u180, h⟩ := h
    obtain ⟨u181, h⟩ := h
    obtain ⟨u182, h⟩ := h
    obtain ⟨u183, h⟩ := h
    obtain ⟨u184, h⟩ := h
    obtain ⟨u185, h⟩ := h
    obtain ⟨u186, h⟩ := h
    obtain ⟨u187, h⟩ := h
    obtain ⟨u188, h⟩ := h
    obtain ⟨u189, h⟩ := h
    obtain ⟨u190, h⟩ := h
    obtain ⟨u191, h⟩ := h
    obtain ⟨u192, h⟩ := h
    obtain ⟨u193, h⟩ := h
    obtain ⟨u194, h⟩ := h
    obtain ⟨u195, h⟩ := h
    obtain ⟨u196, h⟩ := h
    obtain ⟨u197, h⟩ := h
    obtain ⟨u198, h⟩ := h
    obtain ⟨u199, h⟩ := h
    obtain ⟨u200, h⟩ := h
    obtain ⟨u201, h⟩ := h
    obtain ⟨u202, h⟩ := h
    obtain ⟨u203, h⟩ := h
    obtain ⟨u204, h⟩ := h
    obtain ⟨u205, h⟩ := h
    obtain ⟨u206, h⟩ := h
    obtain ⟨u207, h⟩ := h
    obtain ⟨u208, h⟩ := h
    obtain ⟨u209, h⟩ := h
    obtain ⟨u210, h⟩ := h
    obtain ⟨u211, h⟩ := h
    obtain ⟨u212, h⟩ := h
    obtain ⟨u213, h⟩ := h
    obtain ⟨u214, h⟩ := h
    obtain ⟨u215, h⟩ := h
    obtain ⟨u216, h⟩ := h
    obtain ⟨u217, h⟩ := h
    obtain ⟨u218, h⟩ := h
    obtain ⟨u219, h⟩ := h
    obtain ⟨u220, h⟩ := h
    obtain ⟨u221, h⟩ := h
    obtain ⟨u222, h⟩ := h
    obtain ⟨u223, h⟩ := h
    obtain ⟨u224, h⟩ := h
    obtain ⟨u225, h⟩ := h
    obtain ⟨u226, h⟩ := h
    obtain ⟨u227, h⟩ := h
    obtain ⟨u228, h⟩ := h
    obtain ⟨u229, h⟩ := h
    obtain ⟨u230, h⟩ := h
    obtain ⟨u231, h⟩ := h
    obtain ⟨u232, h⟩ := h
    obtain ⟨u233, h⟩ := h
    obtain ⟨u234, h⟩ := h
    obtain ⟨u235, h⟩ := h
    obtain ⟨u236, h⟩ := h
    obtain ⟨u237, h⟩ := h
    obtain ⟨u238, h⟩ := h
    obtain ⟨u239, h⟩ := h
    obtain ⟨u240, h⟩ := h
    obtain ⟨u241, h⟩ := h
    obtain ⟨u242, h⟩ := h
    obtain ⟨u243, h⟩ := h
    obtain ⟨u244, h⟩ := h
    obtain ⟨u245, h⟩ := h
    obtain ⟨u246, h⟩ := h
    obtain ⟨u247, h⟩ := h
    obtain ⟨u248, h⟩ := h
    obtain ⟨u249, h⟩ := h
    obtain ⟨u250, h⟩ := h
    obtain ⟨u251, h⟩ := h
    obtain ⟨u252, h⟩ := h
    obtain ⟨u253, h⟩ := h
    obtain ⟨u254, h⟩ := h
    obtain ⟨u255, h⟩ := h
    obtain ⟨u256, h⟩ := h
    obtain ⟨u257, h⟩ := h
    obtain ⟨u258, h⟩ := h
    obtain ⟨u259, h⟩ := h
    obtain ⟨u260, h⟩ := h
    obtain ⟨u261, h⟩ := h
    obtain ⟨u262, h⟩ := h
    obtain ⟨u263, h⟩ := h
    obtain ⟨u264, h⟩ := h
    obtain ⟨u265, h⟩ := h
    obtain ⟨u266, h⟩ := h
    obtain ⟨u267, h⟩ := h
    obtain ⟨u268, h⟩ := h
    obtain ⟨u269, h⟩ := h
    obtain ⟨u270, h⟩ := h
    obtain ⟨u271, h⟩ := h
    obtain ⟨u272, h⟩ := h
    obtain ⟨u273, h⟩ := h
    obtain ⟨u274, h⟩ := h
    obtain ⟨u275, h⟩ := h
    obtain ⟨u276, h⟩ := h
    obtain ⟨u277, h⟩ := h
    obtain ⟨u278, h⟩ := h
    obtain ⟨u279, h⟩ := h
    obtain ⟨u280, h⟩ := h
    obtain ⟨u281, h⟩ := h
    obtain ⟨u282, h⟩ := h
    obtain ⟨u283, h⟩ := h
    obtain ⟨u284, h⟩ := h
    obtain ⟨u285, h⟩ := h
    obtain ⟨u286, h⟩ := h
    obtain ⟨u287, h⟩ := h
    obtain ⟨u288, h⟩ := h
    obtain ⟨u289, h⟩ := h
    obtain ⟨u290, h⟩ := h
    obtain ⟨u291, h⟩ := h
    obtain ⟨u292, h⟩ := h
    obtain ⟨u293, h⟩ := h
    obtain ⟨u294, h⟩ := h
    obtain ⟨u295, h⟩ := h
    obtain ⟨u296, h⟩ := h
    obtain ⟨u297, h⟩ := h
    obtain ⟨u298, h⟩ := h
    obtain ⟨u299, h⟩ := h
    obtain ⟨hr, rfl⟩ := h
    exact hQ u4 u6 u7 u12 u14 u15 u16 u17 u18 u19 u20 u21 u22 u23 u24 u25 u26 u27 u28 u29 u30 u31 u32 u33 u34 u35 u54 u55 u56 u57 u58 u59 u60 u61 u62 u63 u64 u65 u66 u67 u68 u69 u70 u71 u72 u73 u74 u75 u76 u77 u78 u79 u80 u81 u82 u83 u84 u85 u86 u87 u88 u89 u90 u91 u92 u93 u94 u95 u96 u97 u98 u99 u100 u101 u102 u103 u104 u105 u106 u107 u108 u109 u110 u111 u112 u113 u114 u115 u116 u117 u118 u119 u120 u121 u122 u123 u124 u125 u126 u127 u128 u129 u130 u131 u132 u133 u134 u135 u136 u137 u138 u139 u140 u141 u142 u143 u144 u145 u146 u147 u148 u149 u150 u151 u152 u153 u154 u155 u156 u157 u158 u159 u160 u161 u162 u163 u164 u165 u166 u167 u168 u169 u170 u171 u172 u173 u174 u175 u176 u177 u178 u179 u180 u181 u182 u183 u184 u185 u186 u187 u188 u189 u190 u191 u192 u193 u194 u195 u196 u197 u198 u199 u200 u201 u202 u203 u204 u205 u206 u207 u208 u209 u210 u211 u212 u213 u214 u215 u216 u217 u218 u219 u220 u221 u222 u223 u224 u225 u226 u227 u228 u229 u230 u231 u232 u233 u234 u235 u236 u237 u238 u239 u240 u241 u242 u243 u244 u245 u246 u247 u248 u249 u250 u251 u252 u253 u254 u255 u256 u257 u258 u259 u260 u261 u262 u263 u264 u265 u266 u267 u268 u269 u270 u271 u272 u273 u274 u275 u276 u277 u278 u279 u280 u281 u282 u283 u284 u285 u286 u287 u288 u289 u290 u291 u292 u293 u294 u295 u296 u297 u298 u299 w' hr
  · intro a' w' h
    obtain ⟨u4, h⟩ := h
    obtain ⟨u6, h⟩ := h
    obtain ⟨u7, h⟩ := h
    obtain ⟨u12, h⟩ := h
    obtain ⟨u14, h⟩ := h
    obtain ⟨u15, h⟩ := h
    obtain ⟨u16, h⟩ := h
    obtain ⟨u17, h⟩ := h
    obtain ⟨u18, h⟩ := h
    obtain ⟨u19, h⟩ := h
    obtain ⟨u20, h⟩ := h
    obtain ⟨u21, h⟩ := h
    obtain ⟨u22, h⟩ := h
    obtain ⟨u23, h⟩ := h
    obtain ⟨u24, h⟩ := h
    obtain ⟨u25, h⟩ := h
    obtain ⟨u26, h⟩ := h
    obtain ⟨u27, h⟩ := h
    obtain ⟨u28, h⟩ := h
    obtain ⟨u29, h⟩ := h
    obtain ⟨u30, h⟩ := h
    obtain ⟨u31, h⟩ := h
    obtain ⟨u32, h⟩ := h
    obtain ⟨u33, h⟩ := h
    obtain ⟨u34, h⟩ := h
    obtain ⟨u35, h⟩ := h
    obtain ⟨u54, h⟩ := h
    obtain ⟨u55, h⟩ := h
    obtain ⟨u56, h⟩ := h
    obtain ⟨u57, h⟩ := h
    obtain ⟨u58, h⟩ := h
    obtain ⟨u59, h⟩ := h
    obtain ⟨u60, h⟩ := h
    obtain ⟨u61, h⟩ := h
    obtain ⟨u62, h⟩ := h
    obtain ⟨u63, h⟩ := h
    obtain ⟨u64, h⟩ := h
    obtain ⟨u65, h⟩ := h
    obtain ⟨u66, h⟩ := h
    obtain ⟨u67, h⟩ := h
    obtain ⟨u68, h⟩ := h
    obtain ⟨u69, h⟩ := h
    obtain ⟨u70, h⟩ := h
    obtain ⟨u71, h⟩ := h
    obtain ⟨u72, h⟩ := h
    obtain ⟨u73, h⟩ := h
    obtain ⟨u74, h⟩ := h
    obtain ⟨u75, h⟩ := h
    obtain ⟨u76, h⟩ := h
    obtain ⟨u77, h⟩ := h
    obtain ⟨u78, h⟩ := h
    obtain ⟨u79, h⟩ := h
    obtain ⟨u80, h⟩ := h
    obtain ⟨u81, h⟩ := h
    obtain ⟨u82, h⟩ := h
    obtain ⟨u83, h⟩ := h
    obtain ⟨u84, h⟩ := h
    obtain ⟨u85, h⟩ := h
    obtain ⟨u86, h⟩ := h
    obtain ⟨u87, h⟩ := h
    obtain ⟨u88, h⟩ := h
    obtain ⟨u89, h⟩ := h
    obtain ⟨u90, h⟩ := h
    obtain ⟨u91, h⟩ := h
    obtain ⟨u92, h⟩ := h
    obtain ⟨u93, h⟩ := h
    obtain ⟨u94, h⟩ := h
    obtain ⟨u95, h⟩ := h
    obtain ⟨u96, h⟩ := h
    obtain ⟨u97, h⟩ := h
    obtain ⟨u98, h⟩ := h
    obtain ⟨u99, h⟩ := h
    obtain ⟨u100, h⟩ := h
    obtain ⟨u101, h⟩ := h
    obtain ⟨u102, h⟩ := h
    obtain ⟨u103, h⟩ := h
    obtain ⟨u104, h⟩ := h
    obtain ⟨u105, h⟩ := h
    obtain ⟨u106, h⟩ := h
    obtain ⟨u107, h⟩ := h
    obtain ⟨u108, h⟩ := h
    obtain ⟨u109, h⟩ := h
    obtain ⟨u110, h⟩ := h
    obtain ⟨u111, h⟩ := h
    obtain ⟨u112, h⟩ := h
    obtain ⟨u113, h⟩ := h
    obtain ⟨u114, h⟩ := h
    obtain ⟨u115, h⟩ := h
    obtain ⟨u116, h⟩ := h
    obtain ⟨u117, h⟩ := h
    obtain ⟨u118, h⟩ := h
    obtain ⟨u119, h⟩ := h
    obtain ⟨u120, h⟩ := h
    obtain ⟨u121, h⟩ := h
    obtain ⟨u122, h⟩ := h
    obtain ⟨u123, h⟩ := h
    obtain ⟨u124, h⟩ := h
    obtain ⟨u125, h⟩ := h
    obtain ⟨u126, h⟩ := h
    obtain ⟨u127, h⟩ := h
    obtain ⟨u128, h⟩ := h
    obtain ⟨u129, h⟩ := h
    obtain ⟨u130, h⟩ := h
    obtain ⟨u131, h⟩ := h
    obtain ⟨u132, h⟩ := h
    obtain ⟨u133, h⟩ := h
    obtain ⟨u134, h⟩ := h
    obtain ⟨u135, h⟩ := h
    obtain ⟨u136, h⟩ := h
    obtain ⟨u137, h⟩ := h
    obtain ⟨u138, h⟩ := h
    obtain ⟨u139, h⟩ := h
    obtain ⟨u140, h⟩ := h
    obtain ⟨u141, h⟩ := h
    obtain ⟨u142, h⟩ := h
    obtain ⟨u143, h⟩ := h
    obtain ⟨u144, h⟩ := h
    obtain ⟨u145, h⟩ := h
    obtain ⟨u146, h⟩ := h
    obtain ⟨u147, h⟩ := h
    obtain ⟨u148, h⟩ := h
    obtain ⟨u149, h⟩ := h
    obtain ⟨u150, h⟩ := h
    obtain ⟨u151, h⟩ := h
    obtain ⟨u152, h⟩ := h
    obtain ⟨u153, h⟩ := h
    obtain ⟨u154, h⟩ := h
    obtain ⟨u155, h⟩ := h
    obtain ⟨u156, h⟩ := h
    obtain ⟨u157, h⟩ := h
    obtain ⟨u158, h⟩ := h
    obtain ⟨u159, h⟩ := h
    obtain ⟨u160, h⟩ := h
    obtain ⟨u161, h⟩ := h
    obtain ⟨u162, h⟩ := h
    obtain ⟨u163, h⟩ := h
    obtain ⟨u164, h⟩ := h
    obtain ⟨u165, h⟩ := h
    obtain ⟨u166, h⟩ := h
    obtain ⟨u167, h⟩ := h
    obtain ⟨u168, h⟩ := h
    obtain ⟨u169, h⟩ := h
    obtain ⟨u170, h⟩ := h
    obtain ⟨u171, h⟩ := h
    obtain ⟨u172, h⟩ := h
    obtain ⟨u173, h⟩ := h
    obtain ⟨u174, h⟩ := h
    obtain ⟨u175, h⟩ := h
    obtain ⟨u176, h⟩ := h
    obtain ⟨u177, h⟩ := h
    obtain ⟨u178, h⟩ := h
    obtain ⟨u179, h⟩ := h
    obtain ⟨u180, h⟩ := h
    obtain ⟨u181, h⟩ := h
    obtain ⟨u182, h⟩ := h
    obtain ⟨u183, h⟩ := h
    obtain ⟨u184, h⟩ := h
    obtain ⟨u185, h⟩ := h
    obtain ⟨u186, h⟩ := h
    obtain ⟨u187, h⟩ := h
    obtain ⟨u188, h⟩ := h
    obtain ⟨u189, h⟩ := h
    obtain ⟨u190, h⟩ := h
    obtain ⟨u191, h⟩ := h
    obtain ⟨u192, h⟩ := h
    obtain ⟨u193, h⟩ := h
    obtain ⟨u194, h⟩ := h
    obtain ⟨u195, h⟩ := h
    obtain ⟨u196, h⟩ := h
    obtain ⟨u197, h⟩ := h
    obtain ⟨u198, h⟩ := h
    obtain ⟨u199, h⟩ := h
    obtain ⟨u200, h⟩ := h
    obtain ⟨u201, h⟩ := h
    obtain ⟨u202, h⟩ := h
    obtain ⟨u203, h⟩ := h
    obtain ⟨u204, h⟩ := h
    obtain ⟨u205, h⟩ := h
    obtain ⟨u206, h⟩ := h
    obtain ⟨u207, h⟩ := h
    obtain ⟨u208, h⟩ := h
    obtain ⟨u209, h⟩ := h
    obtain ⟨u210, h⟩ := h
    obtain ⟨u211, h⟩ := h
    obtain ⟨u212, h⟩ := h
    obtain ⟨u213, h⟩ := h
    obtain ⟨u214, h⟩ := h
    obtain ⟨u215, h⟩ := h
    obtain ⟨u216, h⟩ := h
    obtain ⟨u217, h⟩ := h
    obtain ⟨u218, h⟩ := h
    obtain ⟨u219, h⟩ := h
    obtain ⟨u220, h⟩ := h
    obtain ⟨u221, h⟩ := h
    obtain ⟨u222, h⟩ := h
    obtain ⟨u223, h⟩ := h
    obtain ⟨u224, h⟩ := h
    obtain ⟨u225, h⟩ := h
    obtain ⟨u226, h⟩ := h
    obtain ⟨u227, h⟩ := h
    obtain ⟨u228, h⟩ := h
    obtain ⟨u229, h⟩ := h
    obtain ⟨u230, h⟩ := h
    obtain ⟨u231, h⟩ := h
    obtain ⟨u232, h⟩ := h
    obtain ⟨u233, h⟩ := h
    obtain ⟨u234, h⟩ := h
    obtain ⟨u235, h⟩ := h
    obtain ⟨u236, h⟩ := h
    obtain ⟨u237, h⟩ := h
    obtain ⟨u238, h⟩ := h
    obtain ⟨u239, h⟩ := h
    obtain ⟨u240, h⟩ := h
    obtain ⟨u241, h⟩ := h
    obtain ⟨u242, h⟩ := h
    obtain ⟨u243, h⟩ := h
    obtain ⟨u244, h⟩ := h
    obtain ⟨u245, h⟩ := h
    obtain ⟨u246, h⟩ := h
    obtain ⟨u247, h⟩ := h
    obtain ⟨u248, h⟩ := h
    obtain ⟨u249, h⟩ := h
    obtain ⟨u250, h⟩ := h
    obtain ⟨u251, h⟩ := h
    obtain ⟨u252, h⟩ := h
    obtain ⟨u253, h⟩ := h
    obtain ⟨u254, h⟩ := h
    obtain ⟨u255, h⟩ := h
    obtain ⟨u256, h⟩ := h
    obtain ⟨u257, h⟩ := h
    obtain ⟨u258, h⟩ := h
    obtain ⟨u259, h⟩ := h
    obtain ⟨u260, h⟩ := h
    obtain ⟨u261, h⟩ := h
    obtain ⟨u262, h⟩ := h
    obtain ⟨u263, h⟩ := h
    obtain ⟨u264, h⟩ := h
    obtain ⟨u265, h⟩ := h
    obtain ⟨u266, h⟩ := h
    obtain ⟨u267, h⟩ := h
    obtain ⟨u268, h⟩ := h
    obtain ⟨u269, h⟩ := h
    obtain ⟨u270, h⟩ := h
    obtain ⟨u271, h⟩ := h
    obtain ⟨u272, h⟩ := h
    obtain ⟨u273, h⟩ := h
    obtain ⟨u274, h⟩ := h
    obtain ⟨u275, h⟩ := h
    obtain ⟨u276, h⟩ := h
    obtain ⟨u277, h⟩ := h
    obtain ⟨u278, h⟩ := h
    obtain ⟨u279, h⟩ := h
    obtain ⟨u280, h⟩ := h
    obtain ⟨u281, h⟩ := h
    obtain ⟨u282, h⟩ := h
    obtain ⟨u283, h⟩ := h
    obtain ⟨u284, h⟩ := h
    obtain ⟨u285, h⟩ := h
    obtain ⟨u286, h⟩ := h
    obtain ⟨u287, h⟩ := h
    obtain ⟨u288, h⟩ := h
    obtain ⟨u289, h⟩ := h
    obtain ⟨u290, h⟩ := h
    obtain ⟨u291, h⟩ := h
    obtain ⟨u292, h⟩ := h
    obtain ⟨u293, h⟩ := h
    obtain ⟨u294, h⟩ := h
    obtain ⟨u295, h⟩ := h
    obtain ⟨u296, h⟩ := h
    obtain ⟨u297, h⟩ := h
    obtain ⟨u298, h⟩ := h
    obtain ⟨u299, h⟩ := h
    obtain ⟨hr, rfl⟩ := h
    exact hX u4 u6 u7 u12 u14 u15 u16 u17 u18 u19 u20 u21 u22 u23 u24 u25 u26 u27 u28 u29 u30 u31 u32 u33 u34 u35 u54 u55 u56 u57 u58 u59 u60 u61 u62 u63 u64 u65 u66 u67 u68 u69 u70 u71 u72 u73 u74 u75 u76 u77 u78 u79 u80 u81 u82 u83 u84 u85 u86 u87 u88 u89 u90 u91 u92 u93 u94 u95 u96 u97 u98 u99 u100 u101 u102 u103 u104 u105 u106 u107 u108 u109 u110 u111 u112 u113 u114 u115 u116 u117 u118 u119 u120 u121 u122 u123 u124 u125 u126 u127 u128 u129 u130 u131 u132 u133 u134 u135 u136 u137 u138 u139 u140 u141 u142 u143 u144 u145 u146 u147 u148 u149 u150 u151 u152 u153 u154 u155 u156 u157 u158 u159 u160 u161 u162 u163 u164 u165 u166 u167 u168 u169 u170 u171 u172 u173 u174 u175 u176 u177 u178 u179 u180 u181 u182 u183 u184 u185 u186 u187 u188 u189 u190 u191 u192 u193 u194 u195 u196 u197 u198 u199 u200 u201 u202 u203 u204 u205 u206 u207 u208 u209 u210 u211 u212 u213 u214 u215 u216 u217 u218 u219 u220 u221 u222 u223 u224 u225 u226 u227 u228 u229 u230 u231 u232 u233 u234 u235 u236 u237 u238 u239 u240 u241 u242 u243 u244 u245 u246 u247 u248 u249 u250 u251 u252 u253 u254 u255 u256 u257 u258 u259 u260 u261 u262 u263 u264 u265 u266 u267 u268 u269 u270 u271 u272 u273 u274 u275 u276 u277 u278 u279 u280 u281 u282 u283 u284 u285 u286 u287 u288 u289 u290 u291 u292 u293 u294 u295 u296 u297 u298 u299 w' hr
  · intro a' w' h
    obtain ⟨u4, h⟩ := h
    obtain ⟨u6, h⟩ := h
    obtain ⟨u7, h⟩ := h
    obtain ⟨u12, h⟩ := h
    obtain ⟨u14, h⟩ := h
    obtain ⟨u15, h⟩ := h
    obtain ⟨u16, h⟩ := h
    obtain ⟨u17, h⟩ := h
    obtain ⟨u18, h⟩ := h
    obtain ⟨u19, h⟩ := h
    obtain ⟨u20, h⟩ := h
    obtain ⟨u21, h⟩ := h
    obtain ⟨u22, h⟩ := h
    obtain ⟨u23, h⟩ := h
    obtain ⟨u24, h⟩ := h
    obtain ⟨u25, h⟩ := h
    obtain ⟨u26, h⟩ := h
    obtain ⟨u27, h⟩ := h
    obtain ⟨u28, h⟩ := h
    obtain ⟨u29, h⟩ := h
    obtain ⟨u30, h⟩ := h
    obtain ⟨u31, h⟩ := h
    obtain ⟨u32, h⟩ := h
    obtain ⟨u33, h⟩ := h
    obtain ⟨u34, h⟩ := h
    obtain ⟨u35, h⟩ := h
    obtain ⟨u54, h⟩ := h
    obtain ⟨u55, h⟩ := h
    obtain ⟨u56, h⟩ := h
    obtain ⟨u57, h⟩ := h
    obtain ⟨u58, h⟩ := h
    obtain ⟨u59, h⟩ := h
    obtain ⟨u60, h⟩ := h
    obtain ⟨u61, h⟩ := h
    obtain ⟨u62, h⟩ := h
    obtain ⟨u63, h⟩ := h
    obtain ⟨u64, h⟩ := h
    obtain ⟨u65, h⟩ := h
    obtain ⟨u66, h⟩ := h
    obtain ⟨u67, h⟩ := h
    obtain ⟨u68, h⟩ := h
    obtain ⟨u69, h⟩ := h
    obtain ⟨u70, h⟩ := h
    obtain ⟨u71, h⟩ := h
    obtain ⟨u72, h⟩ := h
    obtain ⟨u73, h⟩ := h
    obtain ⟨u74, h⟩ := h
    obtain ⟨u75, h⟩ := h
    obtain ⟨u76, h⟩ := h
    obtain ⟨u77, h⟩ := h
    obtain ⟨u78, h⟩ := h
    obtain ⟨u79, h⟩ := h
    obtain ⟨u80, h⟩ := h
    obtain ⟨u81, h⟩ := h
    obtain ⟨u82, h⟩ := h
    obtain ⟨u83, h⟩ := h
    obtain ⟨u84, h⟩ := h
    obtain ⟨u85, h⟩ := h
    obtain ⟨u86, h⟩ := h
    obtain ⟨u87, h⟩ := h
    obtain ⟨u88, h⟩ := h
    obtain ⟨u89, h⟩ := h
    obtain ⟨u90, h⟩ := h
    obtain ⟨u91, h⟩ := h
    obtain ⟨u92, h⟩ := h
    obtain ⟨u93, h⟩ := h
    obtain ⟨u94, h⟩ := h
    obtain ⟨u95, h⟩ := h
    obtain ⟨u96, h⟩ := h
    obtain ⟨u97, h⟩ := h
    obtain ⟨u98, h⟩ := h
    obtain ⟨u99, h⟩ := h
    obtain ⟨u100, h⟩ := h
    obtain ⟨u101, h⟩ := h
    obtain ⟨u102, h⟩ := h
    obtain ⟨u103, h⟩ := h
    obtain ⟨u104, h⟩ := h
    obtain ⟨u105, h⟩ := h
    obtain ⟨u106, h⟩ := h
    obtain ⟨u107, h⟩ := h
    obtain ⟨u108, h⟩ := h
    obtain ⟨u109, h⟩ := h
    obtain ⟨u110, h⟩ := h
    obtain ⟨u111, h⟩ := h
    obtain ⟨u112, h⟩ := h
    obtain ⟨u113, h⟩ := h
    obtain ⟨u114, h⟩ := h
    obtain ⟨u115, h⟩ := h
    obtain ⟨u116, h⟩ := h
    obtain ⟨u117, h⟩ := h
    obtain ⟨u118, h⟩ := h
    obtain ⟨u119, h⟩ := h
    obtain ⟨u120, h⟩ := h
    obtain ⟨u121, h⟩ := h
    obtain ⟨u122, h⟩ := h
    obtain ⟨u123, h⟩ := h
    obtain ⟨u124, h⟩ := h
    obtain ⟨u125, h⟩ := h
    obtain ⟨u126, h⟩ := h
    obtain ⟨u127, h⟩ := h
    obtain ⟨u128, h⟩ := h
    obtain ⟨u129, h⟩ := h
    obtain ⟨u130, h⟩ := h
    obtain ⟨u131, h⟩ := h
    obtain ⟨u132, h⟩ := h
    obtain ⟨u133, h⟩ := h
    obtain ⟨u134, h⟩ := h
    obtain ⟨u135, h⟩ := h
    obtain ⟨u136, h⟩ := h
    obtain ⟨u137, h⟩ := h
    obtain ⟨u138, h⟩ := h
    obtain ⟨u139, h⟩ := h
    obtain ⟨u140, h⟩ := h
    obtain ⟨u141, h⟩ := h
    obtain ⟨u142, h⟩ := h
    obtain ⟨u143, h⟩ := h
    obtain ⟨u144, h⟩ := h
    obtain ⟨u145, h⟩ := h
    obtain ⟨u146, h⟩ := h
    obtain ⟨u147, h⟩ := h
    obtain ⟨u148, h⟩ := h
    obtain ⟨u149, h⟩ := h
    obtain ⟨u150, h⟩ := h
    obtain ⟨u151, h⟩ := h
    obtain ⟨u152, h⟩ := h
    obtain ⟨u153, h⟩ := h
    obtain ⟨u154, h⟩ := h
    obtain ⟨u155, h⟩ := h
    obtain ⟨u156, h⟩ := h
    obtain ⟨u157, h⟩ := h
    obtain ⟨u158, h⟩ := h
    obtain ⟨u159, h⟩ := h
    obtain ⟨u160, h⟩ := h
    obtain ⟨u161, h⟩ := h
    obtain ⟨u162, h⟩ := h
    obtain ⟨u163, h⟩ := h
    obtain ⟨u164, h⟩ := h
    obtain ⟨u165, h⟩ := h
    obtain ⟨u166, h⟩ := h
    obtain ⟨u167, h⟩ := h
    obtain ⟨u168, h⟩ := h
    obtain ⟨u169, h⟩ := h
    obtain ⟨u170, h⟩ := h
    obtain ⟨u171, h⟩ := h
    obtain ⟨u172, h⟩ := h
    obtain ⟨u173, h⟩ := h
    obtain ⟨u174, h⟩ := h
    obtain ⟨u175, h⟩ := h
    obtain ⟨u176, h⟩ := h
    obtain ⟨u177, h⟩ := h
    obtain ⟨u178, h⟩ := h
    obtain ⟨u179, h⟩ := h
    obtain ⟨u180, h⟩ := h
    obtain ⟨u181, h⟩ := h
    obtain ⟨u182, h⟩ := h
    obtain ⟨u183, h⟩ := h
    obtain ⟨u184, h⟩ := h
    obtain ⟨u185, h⟩ := h
    obtain ⟨u186, h⟩ := h
    obtain ⟨u187, h⟩ := h
    obtain ⟨u188, h⟩ := h
    obtain ⟨u189, h⟩ := h
    obtain ⟨u190, h⟩ := h
    obtain ⟨u191, h⟩ := h
    obtain ⟨u192, h⟩ := h
    obtain ⟨u193, h⟩ := h
    obtain ⟨u194, h⟩ := h
    obtain ⟨u195, h⟩ := h
    obtain ⟨u196, h⟩ := h
    obtain ⟨u197, h⟩ := h
    obtain ⟨u198, h⟩ := h
    obtain ⟨u199, h⟩ := h
    obtain ⟨u200, h⟩ := h
    obtain ⟨u201, h⟩ := h
    obtain ⟨u202, h⟩ := h
    obtain ⟨u203, h⟩ := h
    obtain ⟨u204, h⟩ := h
    obtain ⟨u205, h⟩ := h
    obtain ⟨u206, h⟩ := h
    obtain ⟨u207, h⟩ := h
    obtain ⟨u208, h⟩ := h
    obtain ⟨u209, h⟩ := h
    obtain ⟨u210, h⟩ := h
    obtain ⟨u211, h⟩ := h
    obtain ⟨u212, h⟩ := h
    obtain ⟨u213, h⟩ := h
    obtain ⟨u214, h⟩ := h
    obtain ⟨u215, h⟩ := h
    obtain ⟨u216, h⟩ := h
    obtain ⟨u217, h⟩ := h
    obtain ⟨u218, h⟩ := h
    obtain ⟨u219, h⟩ := h
    obtain ⟨u220, h⟩ := h
    obtain ⟨u221, h⟩ := h
    obtain ⟨u222, h⟩ := h
    obtain ⟨u223, h⟩ := h
    obtain ⟨u224, h⟩ := h
    obtain ⟨u225, h⟩ := h
    obtain ⟨u226, h⟩ := h
    obtain ⟨u227, h⟩ := h
    obtain ⟨u228, h⟩ := h
    obtain ⟨u229, h⟩ := h
    obtain ⟨u230, h⟩ := h
    obtain ⟨u231, h⟩ := h
    obtain ⟨u232, h⟩ := h
    obtain ⟨u233, h⟩ := h
    obtain ⟨u234, h⟩ := h
    obtain ⟨u235, h⟩ := h
    obtain ⟨u236, h⟩ := h
    obtain ⟨u237, h⟩ := h
    obtain ⟨u238, h⟩ := h
    obtain ⟨u239, h⟩ := h
    obtain ⟨u240, h⟩ := h
    obtain ⟨u241, h⟩ := h
    obtain ⟨u242, h⟩ := h
    obtain ⟨u243, h⟩ := h
    obtain ⟨u244, h⟩ := h
    obtain ⟨u245, h⟩ := h
    obtain ⟨u246, h⟩ := h
    obtain ⟨u247, h⟩ := h
    obtain ⟨u248, h⟩ := h
    obtain ⟨u249, h⟩ := h
    obtain ⟨u250, h⟩ := h
    obtain ⟨u251, h⟩ := h
    obtain ⟨u252, h⟩ := h
    obtain ⟨u253, h⟩ := h
    obtain ⟨u254, h⟩ := h
    obtain ⟨u255, h⟩ := h
    obtain ⟨u256, h⟩ := h
    obtain ⟨u257, h⟩ := h
    obtain ⟨u258, h⟩ := h
    obtain ⟨u259, h⟩ := h
    obtain ⟨u260, h⟩ := h
    obtain ⟨u261, h⟩ := h
    obtain ⟨u262, h⟩ := h
    obtain ⟨u263, h⟩ := h
    obtain ⟨u264, h⟩ := h
    obtain ⟨u265, h⟩ := h
    obtain ⟨u266, h⟩ := h
    obtain ⟨u267, h⟩ := h
    obtain ⟨u268, h⟩ := h
    obtain ⟨u269, h⟩ := h
    obtain ⟨u270, h⟩ := h
    obtain ⟨u271, h⟩ := h
    obtain ⟨u272, h⟩ := h
    obtain ⟨u273, h⟩ := h
    obtain ⟨u274, h⟩ := h
    obtain ⟨u275, h⟩ := h
    obtain ⟨u276, h⟩ := h
    obtain ⟨u277, h⟩ := h
    obtain ⟨u278, h⟩ := h
    obtain ⟨u279, h⟩ := h
    obtain ⟨u280, h⟩ := h
    obtain ⟨u281, h⟩ := h
    obtain ⟨u282, h⟩ := h
    obtain ⟨u283, h⟩ := h
    obtain ⟨u284, h⟩ := h
    obtain ⟨u285, h⟩ := h
    obtain ⟨u286, h⟩ := h
    obtain ⟨u287, h⟩ := h
    obtain ⟨u288, h⟩ := h
    obtain ⟨u289, h⟩ := h
    obtain ⟨u290, h⟩ := h
    obtain ⟨u291, h⟩ := h
    obtain ⟨u292, h⟩ := h
    obtain ⟨u293, h⟩ := h
    obtain ⟨u294, h⟩ := h
    obtain ⟨u295, h⟩ := h
    obtain ⟨u296, h⟩ := h
    obtain ⟨u297, h⟩ := h
    obtain ⟨u298, h⟩ := h
    obtain ⟨u299, h⟩ := h
    obtain ⟨hr, rfl⟩ := h
    exact hR u4 u6 u7 u12 u14 u15 u16 u17 u18 u19 u20 u21 u22 u23 u24 u25 u26 u27 u28 u29 u30 u31 u32 u33 u34 u35 u54 u55 u56 u57 u58 u59 u60 u61 u62 u63 u64 u65 u66 u67 u68 u69 u70 u71 u72 u73 u74 u75 u76 u77 u78 u79 u80 u81 u82 u83 u84 u85 u86 u87 u88 u89 u90 u91 u92 u93 u94 u95 u96 u97 u98 u99 u100 u101 u102 u103 u104 u105 u106 u107 u108 u109 u110 u111 u112 u113 u114 u115 u116 u117 u118 u119 u120 u121 u122 u123 u124 u125 u126 u127 u128 u129 u130 u131 u132 u133 u134 u135 u136 u137 u138 u139 u140 u141 u142 u143 u144 u145 u146 u147 u148 u149 u150 u151 u152 u153 u154 u155 u156 u157 u158 u159 u160 u161 u162 u163 u164 u165 u166 u167 u168 u169 u170 u171 u172 u173 u174 u175 u176 u177 u178 u179 u180 u181 u182 u183 u184 u185 u186 u187 u188 u189 u190 u191 u192 u193 u194 u195 u196 u197 u198 u199 u200 u201 u202 u203 u204 u205 u206 u207 u208 u209 u210 u211 u212 u213 u214 u215 u216 u217 u218 u219 u220 u221 u222 u223 u224 u225 u226 u227 u228 u229 u230 u231 u232 u233 u234 u235 u236 u237 u238 u239 u240 u241 u242 u243 u244 u245 u246 u247 u248 u249 u250 u251 u252 u253 u254 u255 u256 u257 u258 u259 u260 u261 u262 u263 u264 u265 u266 u267 u268 u269 u270 u271 u272 u273 u274 u275 u276 u277 u278 u279 u280 u281 u282 u283 u284 u285 u286 u287 u288 u289 u290 u291 u292 u293 u294 u295 u296 u297 u298 u299 w' hr
end Go.Proofs.Ytbmnlohaidbmdaa
