/- The document's layer 17: what its Solve holds while it goes on. No condition but on lengths. -/
import Derived.Test.YtdljnhdhigbefaaUnZ
import Derived.Test.YtdljnhdhigbefaaZz18
import Derived.Deep.CutBlock
namespace Go.Proofs.Ytdljnhdhigbefaa
open Go Go.RowKit
set_option maxRecDepth 1000000

/-- Where the document's Solve has its parts. -/
structure RgP where
  Y : Nat
  Z : Nat
  n : Nat
  ne : Nat
  ru : Nat
  rv : Nat
  ad : Option Addr
  ae : Option Addr
  au : Option Addr
  av : Option Addr
  dc : Nat
  ec : Nat
  uc : Nat
  vc : Nat
  bd : Nat
  be : Nat
  bu : Nat
  bv : Nat
structure RGk (w W : World) (p : RgP) (g : GkS) : Prop where
  xu : Box W p.Y [.int .i64 p.ru, .int .i64 p.n, .slice p.au (p.ru * p.n) p.uc]
  xv : Box W p.Z [.int .i64 p.rv, .int .i64 p.n, .slice p.av (p.rv * p.n) p.vc]
  x3 : Box W (w.heap.size + 1 + 1 + 1) [.int .i64 0, .int .i64 0, .slice none 0 0]
  x4 : Box W (w.heap.size + 1 + 1 + 1 + 1) [.int .i64 0, .int .i64 0, .slice none 0 0]
  d : FS W p.ad p.bd g.d
  e : FS W p.ae p.be g.e
  u : MxF W p.ru p.n p.au p.uc p.bu g.u
  v : MxF W p.rv p.n p.av p.vc p.bv g.v
  ld : g.d.length = p.n
  le : g.e.length = p.ne
  hn : p.n ≤ p.ne ∧ p.ne ≤ 600 ∧ p.n ≤ 512 ∧ p.ru ≤ 512 ∧ p.rv ≤ 512
  wd : Words g.d
  we : Words g.e
  nd : [p.Y, p.Z, p.bd, p.be, p.bu, p.bv].Nodup
  lo : w.heap.size + 1 + 1 + 1 + 1 < p.Y ∧ w.heap.size + 1 + 1 + 1 + 1 < p.Z ∧ w.heap.size + 1 + 1 + 1 + 1 < p.bd ∧ w.heap.size + 1 + 1 + 1 + 1 < p.be ∧ w.heap.size + 1 + 1 + 1 + 1 < p.bu ∧ w.heap.size + 1 + 1 + 1 + 1 < p.bv
  below : Below w.heap.size w W
theorem nodup6 {a b c d e f : Nat} (h : [a, b, c, d, e, f].Nodup) : (a ≠ b ∧ a ≠ c ∧ a ≠ d ∧ a ≠ e ∧ a ≠ f) ∧ (b ≠ c ∧ b ≠ d ∧ b ≠ e ∧ b ≠ f) ∧ (c ≠ d ∧ c ≠ e ∧ c ≠ f) ∧ (d ≠ e ∧ d ≠ f) ∧ e ≠ f := by
  simp only [List.nodup_cons, List.mem_cons, List.not_mem_nil, or_false, not_or, not_false_eq_true, List.nodup_nil, and_true] at h
  exact h
section
variable {w W W' : World} {p : RgP} {g g' : GkS}
theorem RGk.step (h : RGk w W p g) (hb : Below W.heap.size W W') : RGk w W' p g := ⟨h.xu.below hb, h.xv.below hb, h.x3.below hb, h.x4.below hb, h.d.below hb, h.e.below hb, h.u.below hb, h.v.below hb, h.ld, h.le, h.hn, h.wd, h.we, h.nd, h.lo, below_step h.below h.below.size hb⟩
theorem RGk.addr (h : RGk w W p g) (h0 : 0 < p.n) : (p.ad = some ⟨p.bd, 0, none⟩ ∧ Flb W p.bd g.d) ∧ p.ae = some ⟨p.be, 0, none⟩ ∧ Flb W p.be g.e := by
  have hd0 : g.d ≠ [] := fun e => by have hq := h.ld; rw [e] at hq; simp at hq; omega
  have he0 : g.e ≠ [] := fun e => by have hq := h.le; have := h.hn; rw [e] at hq; simp at hq; omega
  exact ⟨h.d.resolve_left hd0, h.e.resolve_left he0⟩
theorem RGk.atD (h : RGk w W p g) {i : Nat} (hi : i < p.n) : ∃ s, W.cell? ⟨p.bd, i, none⟩ = some (.float .f64 (raw (g.d.getD i 0) s)) := ((h.addr (by omega)).1.2).at (by rw [h.ld]; exact hi)
theorem RGk.atE (h : RGk w W p g) (h0 : 0 < p.n) {i : Nat} (hi : i < p.ne) : ∃ s, W.cell? ⟨p.be, i, none⟩ = some (.float .f64 (raw (g.e.getD i 0) s)) := ((h.addr h0).2.2).at (by rw [h.le]; exact hi)
theorem RGk.ltD (h : RGk w W p g) (h0 : 0 < p.n) : p.bd < W.heap.size ∧ p.be < W.heap.size := ⟨(h.addr h0).1.2.lt, (h.addr h0).2.2.lt⟩
theorem RGk.frD (h : RGk w W p g) (h0 : 0 < p.n) : ∀ i, W.frozen? ⟨p.bd, i, none⟩ = false := (h.addr h0).1.2.frozen
theorem RGk.frE (h : RGk w W p g) (h0 : 0 < p.n) : ∀ i, W.frozen? ⟨p.be, i, none⟩ = false := (h.addr h0).2.2.frozen
theorem RGk.setD (h : RGk w W p g) (h0 : 0 < p.n) (i x s : Nat) (hx : x < 18446744073709551616) : RGk w (W.setCell ⟨p.bd, i, none⟩ (.float .f64 (raw x s))) p { g with d := g.d.set i x } := by
  obtain ⟨⟨a1, a2, a3, a4, a5⟩, ⟨b1, b2, b3, b4⟩, ⟨c1, c2, c3⟩, ⟨d1, d2⟩, e1⟩ := nodup6 h.nd
  have hl := h.lo
  obtain ⟨⟨hd1, hd2⟩, he1, he2⟩ := h.addr h0
  have hb : Bel W.heap.size p.bd W (W.setCell ⟨p.bd, i, none⟩ (.float .f64 (raw x s))) := (Bel.refl _ _ _).set _ _
  exact ⟨h.xu.bel a2 hb, h.xv.bel b1 hb, h.x3.bel (by omega) hb, h.x4.bel (by omega) hb, .inr ⟨hd1, hd2.set i x s⟩, .inr ⟨he1, he2.other (Ne.symm c1) _ _⟩, h.u.bel (fun _ => Ne.symm c2) hb, h.v.bel (fun _ => Ne.symm c3) hb, by rw [List.length_set]; exact h.ld, h.le, h.hn, words_setG h.wd hx, h.we, h.nd, h.lo, h.below.trans ((hb.mono h.below.size).below (by omega))⟩
theorem RGk.setE (h : RGk w W p g) (h0 : 0 < p.n) (i x s : Nat) (hx : x < 18446744073709551616) : RGk w (W.setCell ⟨p.be, i, none⟩ (.float .f64 (raw x s))) p { g with e := g.e.set i x } := by
  obtain ⟨⟨a1, a2, a3, a4, a5⟩, ⟨b1, b2, b3, b4⟩, ⟨c1, c2, c3⟩, ⟨d1, d2⟩, e1⟩ := nodup6 h.nd
  have hl := h.lo
  obtain ⟨⟨hd1, hd2⟩, he1, he2⟩ := h.addr h0
  have hb : Bel W.heap.size p.be W (W.setCell ⟨p.be, i, none⟩ (.float .f64 (raw x s))) := (Bel.refl _ _ _).set _ _
  exact ⟨h.xu.bel a3 hb, h.xv.bel b2 hb, h.x3.bel (by omega) hb, h.x4.bel (by omega) hb, .inr ⟨hd1, hd2.other c1 _ _⟩, .inr ⟨he1, he2.set i x s⟩, h.u.bel (fun _ => Ne.symm d1) hb, h.v.bel (fun _ => Ne.symm d2) hb, h.ld, by rw [List.length_set]; exact h.le, h.hn, h.wd, words_setG h.we hx, h.nd, h.lo, h.below.trans ((hb.mono h.below.size).below (by omega))⟩
theorem RGk.putU (h : RGk w W p g) {u' : List Nat} (hu : MxF W' p.ru p.n p.au p.uc p.bu u') (hb : Bel W.heap.size p.bu W W') : RGk w W' p { g with u := u' } := by
  obtain ⟨⟨a1, a2, a3, a4, a5⟩, ⟨b1, b2, b3, b4⟩, ⟨c1, c2, c3⟩, ⟨d1, d2⟩, e1⟩ := nodup6 h.nd
  have hl := h.lo
  exact ⟨h.xu.bel a4 hb, h.xv.bel b3 hb, h.x3.bel (by omega) hb, h.x4.bel (by omega) hb, h.d.belU c2 hb, h.e.belU d1 hb, hu, h.v.bel (fun _ => Ne.symm e1) hb, h.ld, h.le, h.hn, h.wd, h.we, h.nd, h.lo, h.below.trans ((hb.mono h.below.size).below (by omega))⟩
theorem RGk.putV (h : RGk w W p g) {v' : List Nat} (hv : MxF W' p.rv p.n p.av p.vc p.bv v') (hb : Bel W.heap.size p.bv W W') : RGk w W' p { g with v := v' } := by
  obtain ⟨⟨a1, a2, a3, a4, a5⟩, ⟨b1, b2, b3, b4⟩, ⟨c1, c2, c3⟩, ⟨d1, d2⟩, e1⟩ := nodup6 h.nd
  have hl := h.lo
  exact ⟨h.xu.bel a5 hb, h.xv.bel b4 hb, h.x3.bel (by omega) hb, h.x4.bel (by omega) hb, h.d.belU c3 hb, h.e.belU d2 hb, h.u.bel (fun _ => e1) hb, hv, h.ld, h.le, h.hn, h.wd, h.we, h.nd, h.lo, h.below.trans ((hb.mono h.below.size).below (by omega))⟩
theorem rgk_turnU {j i c sc s ss : Nat} (h : RGk w W p g) (hj : j < p.n) (hi : i < p.n) : Calls Try.prog 63 #[.agg #[.int .i64 p.ru, .int .i64 p.n, .slice p.au (p.ru * p.n) p.uc], .int .i64 j, .int .i64 i, .float .f64 (raw c sc), .float .f64 (raw s ss)] W fun r w' => r = .returned (.tuple #[]) ∧ RGk w w' p { g with u := rotL g.u p.n j i c s p.ru } := by
  have := turn17_any W j i c sc s ss h.u hj hi h.hn.2.2.2.1 h.hn.2.2.1
  rw [h.u.len] at this
  refine this.mono ?_
  rintro r w' ⟨rfl, h1, h2⟩
  exact ⟨rfl, h.putU h1 h2⟩
theorem rgk_turnV {j i c sc s ss : Nat} (h : RGk w W p g) (hj : j < p.n) (hi : i < p.n) : Calls Try.prog 63 #[.agg #[.int .i64 p.rv, .int .i64 p.n, .slice p.av (p.rv * p.n) p.vc], .int .i64 j, .int .i64 i, .float .f64 (raw c sc), .float .f64 (raw s ss)] W fun r w' => r = .returned (.tuple #[]) ∧ RGk w w' p { g with v := rotL g.v p.n j i c s p.rv } := by
  have := turn17_any W j i c sc s ss h.v hj hi h.hn.2.2.2.2 h.hn.2.2.1
  rw [h.v.len] at this
  refine this.mono ?_
  rintro r w' ⟨rfl, h1, h2⟩
  exact ⟨rfl, h.putV h1 h2⟩
end
theorem negL_succ (z : List Nat) (n k r : Nat) : negL z n k (r + 1) = (negL z n k r).set (r * n + k) (fneg ((negL z n k r).getD (r * n + k) 0)) := by
  unfold negL
  rw [colsL, colsR, List.set_set]
theorem negL_len (z : List Nat) (n k r : Nat) : (negL z n k r).length = z.length := colsL_len _ _ _ _ _ _ _
end Go.Proofs.Ytdljnhdhigbefaa

/- The document's layer 17, a part of its Solve: where a block starts (printed by gen_db.py). No condition but on lengths. -/
namespace Go.Proofs.Ytdljnhdhigbefaa
open Go Go.RowKit
set_option maxRecDepth 1000000

/-- The block b of a text. -/
def findBlock : Code → Nat → Option Code
  | .block i c, b => if i = b then some (.block i c) else findBlock c b
  | .seq x y, b => match findBlock x b with
    | some c => some c
    | none => findBlock y b
  | .cond _ x y, b => match findBlock x b with
    | some c => some c
    | none => findBlock y b
  | .loop c, b => findBlock c b
  | .scope c, b => findBlock c b
  | .rangeFunc _ _ x y, b => match findBlock x b with
    | some c => some c
    | none => findBlock y b
  | _, _ => none
set_option maxRecDepth 1000000 in
set_option maxHeartbeats 16000000 in
theorem start_part (c0 c1 c2 c3 c4 c5 c6 c7 c8 c9 c10 c11 c12 c13 c17 c18 c19 c21 c24 c25 c26 c27 c28 c29 c30 c31 c32 c33 c34 c35 c36 c37 c38 c39 c40 c41 c42 c43 c44 c45 c46 c47 c48 c49 c50 c51 c52 c53 c54 c55 c56 c57 c58 c59 c60 c61 c62 c63 c64 c65 c66 c67 c68 c69 c70 c71 c72 c73 c74 c75 c76 c77 c78 c79 c80 c81 c82 c83 c84 c85 c86 c87 c88 c89 c90 c91 c92 c93 c94 c95 c96 c97 c98 c99 c100 c101 c102 c103 c104 c105 c106 c107 c108 c109 c110 c111 c112 c113 c114 c115 c116 c117 c118 c119 c120 c121 c122 c123 c124 c125 c126 c127 c128 c129 c130 c131 c132 c133 c134 c135 c136 c137 c138 c139 c140 c141 c142 c143 c144 c145 c146 c147 c148 c149 c150 c151 c152 c153 c154 c155 c156 c157 c158 c159 c160 c161 c162 c163 c164 c165 c166 c167 c168 c169 c170 c171 c172 c173 c174 c175 c176 c177 c178 c179 c180 c181 c182 c183 c184 c185 c186 c187 c188 c189 c190 c191 c192 c193 c194 c195 c196 c197 c198 c199 c200 c201 c202 c203 c204 c205 c206 c207 c208 c209 c210 c211 c212 c213 c214 c215 c216 c217 c218 c219 c220 c221 c222 c223 c224 c225 c226 c227 c228 c229 c230 c231 c232 c233 c234 c235 c236 c237 c238 c239 c240 c241 c242 c243 c244 c245 c246 c247 c248 c249 c250 c251 c252 c253 c254 c255 c256 c257 c258 c259 c260 c261 c262 c263 c264 c265 c266 c267 c268 c269 c270 c271 c272 c273 c274 c275 c276 c277 c278 c279 c280 c281 c282 c283 c284 c285 c286 c287 c288 c289 c290 c291 c292 c293 c294 c295 c296 c297 c298 c299 c300 c301 c302 c303 c304 c305 c306 c307 c308 c309 c310 c311 c312 c313 c314 c315 c316 c317 c318 c319 c320 c321 c322 c323 c324 c325 c326 c327 c328 c329 c330 c331 c332 c333 c334 c335 c336 c337 c338 c339 c340 c341 c342 c343 c344 c345 c346 c347 c348 c349 c350 c351 c352 c353 c354 c355 c356 c357 c358 c359 c360 c361 c362 c363 c364 c365 c366 c367 c368 c369 c370 c371 c372 c373 c374 c375 c376 c377 c378 c379 c380 c381 c382 c383 c384 c385 c386 c387 c388 c389 c390 c391 c392 c393 c394 c395 c396 c397 c398 c399 c400 c401 c402 c403 c404 c405 c406 c407 c408 c409 c410 c411 c412 c413 c414 c415 c416 c417 c418 c419 c420 : Value) (p : RgP) (g : GkS) (big sb k : Nat) (w0 w : World) (hG : RGk w0 w p g) (hk : k < p.n) (J K : Act → World → Prop) (Q' : Exit → Act → World → Prop)
    (hJ : ∀ (a' : Act) (w' : World), (∃ u22 u23 u87 u88 u89 u90 u91 u92 u93 u94 u95 u96 u97 u98 u99 u100 u101 u102 u103 u104 u105 u106 u107 u108 u109 : Value, (u22 = .int .i64 (startG g.d g.e big k).1 ∧ u23 = .bool (startG g.d g.e big k).2 ∧ RGk w0 w' p g) ∧ a' = { tmps := #[c0, c1, c2, c3, c4, c5, c6, c7, c8, c9, c10, c11, c12, c13, .slice (some ⟨p.bd, 0, none⟩) p.n p.dc, .slice (some ⟨p.be, 0, none⟩) p.ne p.ec, .float .f64 (raw big sb), c17, c18, c19, .int .i64 k, c21, u22, u23, c24, c25, c26, c27, c28, c29, c30, c31, c32, c33, c34, c35, c36, c37, c38, c39, c40, c41, c42, c43, c44, c45, c46, c47, c48, c49, c50, c51, c52, c53, c54, c55, c56, c57, c58, c59, c60, c61, c62, c63, c64, c65, c66, c67, c68, c69, c70, c71, c72, c73, c74, c75, c76, c77, c78, c79, c80, c81, c82, c83, c84, c85, c86, u87, u88, u89, u90, u91, u92, u93, u94, u95, u96, u97, u98, u99, u100, u101, u102, u103, u104, u105, u106, u107, u108, u109, c110, c111, c112, c113, c114, c115, c116, c117, c118, c119, c120, c121, c122, c123, c124, c125, c126, c127, c128, c129, c130, c131, c132, c133, c134, c135, c136, c137, c138, c139, c140, c141, c142, c143, c144, c145, c146, c147, c148, c149, c150, c151, c152, c153, c154, c155, c156, c157, c158, c159, c160, c161, c162, c163, c164, c165, c166, c167, c168, c169, c170, c171, c172, c173, c174, c175, c176, c177, c178, c179, c180, c181, c182, c183, c184, c185, c186, c187, c188, c189, c190, c191, c192, c193, c194, c195, c196, c197, c198, c199, c200, c201, c202, c203, c204, c205, c206, c207, c208, c209, c210, c211, c212, c213, c214, c215, c216, c217, c218, c219, c220, c221, c222, c223, c224, c225, c226, c227, c228, c229, c230, c231, c232, c233, c234, c235, c236, c237, c238, c239, c240, c241, c242, c243, c244, c245, c246, c247, c248, c249, c250, c251, c252, c253, c254, c255, c256, c257, c258, c259, c260, c261, c262, c263, c264, c265, c266, c267, c268, c269, c270, c271, c272, c273, c274, c275, c276, c277, c278, c279, c280, c281, c282, c283, c284, c285, c286, c287, c288, c289, c290, c291, c292, c293, c294, c295, c296, c297, c298, c299, c300, c301, c302, c303, c304, c305, c306, c307, c308, c309, c310, c311, c312, c313, c314, c315, c316, c317, c318, c319, c320, c321, c322, c323, c324, c325, c326, c327, c328, c329, c330, c331, c332, c333, c334, c335, c336, c337, c338, c339, c340, c341, c342, c343, c344, c345, c346, c347, c348, c349, c350, c351, c352, c353, c354, c355, c356, c357, c358, c359, c360, c361, c362, c363, c364, c365, c366, c367, c368, c369, c370, c371, c372, c373, c374, c375, c376, c377, c378, c379, c380, c381, c382, c383, c384, c385, c386, c387, c388, c389, c390, c391, c392, c393, c394, c395, c396, c397, c398, c399, c400, c401, c402, c403, c404, c405, c406, c407, c408, c409, c410, c411, c412, c413, c414, c415, c416, c417, c418, c419, c420], defers := [] }) → J a' w') (hKJ : ∀ (a' : Act) (w' : World), Met J a' w' → K a' w') :
    Code.wp Try.prog ((findBlock (Try.f19.body.getD .skip) 6).getD .skip) (Exit.then K Q') { tmps := #[c0, c1, c2, c3, c4, c5, c6, c7, c8, c9, c10, c11, c12, c13, .slice (some ⟨p.bd, 0, none⟩) p.n p.dc, .slice (some ⟨p.be, 0, none⟩) p.ne p.ec, .float .f64 (raw big sb), c17, c18, c19, .int .i64 k, c21, .int .i64 k, .bool false, c24, c25, c26, c27, c28, c29, c30, c31, c32, c33, c34, c35, c36, c37, c38, c39, c40, c41, c42, c43, c44, c45, c46, c47, c48, c49, c50, c51, c52, c53, c54, c55, c56, c57, c58, c59, c60, c61, c62, c63, c64, c65, c66, c67, c68, c69, c70, c71, c72, c73, c74, c75, c76, c77, c78, c79, c80, c81, c82, c83, c84, c85, c86, c87, c88, c89, c90, c91, c92, c93, c94, c95, c96, c97, c98, c99, c100, c101, c102, c103, c104, c105, c106, c107, c108, c109, c110, c111, c112, c113, c114, c115, c116, c117, c118, c119, c120, c121, c122, c123, c124, c125, c126, c127, c128, c129, c130, c131, c132, c133, c134, c135, c136, c137, c138, c139, c140, c141, c142, c143, c144, c145, c146, c147, c148, c149, c150, c151, c152, c153, c154, c155, c156, c157, c158, c159, c160, c161, c162, c163, c164, c165, c166, c167, c168, c169, c170, c171, c172, c173, c174, c175, c176, c177, c178, c179, c180, c181, c182, c183, c184, c185, c186, c187, c188, c189, c190, c191, c192, c193, c194, c195, c196, c197, c198, c199, c200, c201, c202, c203, c204, c205, c206, c207, c208, c209, c210, c211, c212, c213, c214, c215, c216, c217, c218, c219, c220, c221, c222, c223, c224, c225, c226, c227, c228, c229, c230, c231, c232, c233, c234, c235, c236, c237, c238, c239, c240, c241, c242, c243, c244, c245, c246, c247, c248, c249, c250, c251, c252, c253, c254, c255, c256, c257, c258, c259, c260, c261, c262, c263, c264, c265, c266, c267, c268, c269, c270, c271, c272, c273, c274, c275, c276, c277, c278, c279, c280, c281, c282, c283, c284, c285, c286, c287, c288, c289, c290, c291, c292, c293, c294, c295, c296, c297, c298, c299, c300, c301, c302, c303, c304, c305, c306, c307, c308, c309, c310, c311, c312, c313, c314, c315, c316, c317, c318, c319, c320, c321, c322, c323, c324, c325, c326, c327, c328, c329, c330, c331, c332, c333, c334, c335, c336, c337, c338, c339, c340, c341, c342, c343, c344, c345, c346, c347, c348, c349, c350, c351, c352, c353, c354, c355, c356, c357, c358, c359, c360, c361, c362, c363, c364, c365, c366, c367, c368, c369, c370, c371, c372, c373, c374, c375, c376, c377, c378, c379, c380, c381, c382, c383, c384, c385, c386, c387, c388, c389, c390, c391, c392, c393, c394, c395, c396, c397, c398, c399, c400, c401, c402, c403, c404, c405, c406, c407, c408, c409, c410, c411, c412, c413, c414, c415, c416, c417, c418, c419, c420], defers := [] } w := by
  conv => arg 2; whnf
  have HKJ := Lib.hid hKJ
  have HJ := Lib.hid hJ
  have H0 := Lib.hid hG
  obtain ⟨R, hR⟩ : ∃ R, R = startG g.d g.e big k := ⟨_, rfl⟩
  rw [← hR] at HJ
  have HR0 := Lib.hid hR
  have HK := Lib.hid (show k < p.n ∧ k < 512 from ⟨hk, by have := hG.hn; omega⟩)
  clear hJ hKJ hG hk hR
  go_wp2_with fail
  go_loopw [22, 23] (fun s22 s23 wr => ∃ l : Nat, l ≤ k ∧ s22 = .int .i64 l ∧ s23 = .bool false ∧ R = startG g.d g.e big l ∧ RGk w0 wr p g) (fun s22 _ _ => (intOf s22).toNat)
  case atStart => exact ⟨k, Nat.le_refl _, rfl, rfl, HR0.out, H0.out⟩
  case round =>
    obtain ⟨l, hl, rfl, rfl, hR, hG⟩ := hrel
    have H1 := Lib.hid hG
    have HR1 := Lib.hid hR
    have HL := Lib.hid hl
    clear hG hR hl
    by_cases h0 : 0 < l
    · obtain ⟨m, hm⟩ : ∃ m, l = m + 1 := ⟨l - 1, by omega⟩
      have HM := Lib.hid (show l = m + 1 ∧ m < p.n ∧ l < p.ne ∧ l < 512 ∧ 0 < p.n from ⟨hm, by have := HL.out; have := HK.out; omega, by have := HL.out; have := HK.out; have := H1.out.hn; omega, by have := HL.out; have := HK.out; omega, by have := HK.out; omega⟩)
      clear hm
      have hmn : m < p.n := HM.out.2.1
      have hln : l < p.ne := HM.out.2.2.1
      have hl5 : l < 512 := HM.out.2.2.2.1
      have hi1 : wrap64 ((l : Int) - 1) = (m : Int) := (w64s HM.out.1 (by omega)).1
      have hi2 : IntKind.i64.wrap ((l : Int) - 1) = (m : Int) := (w64s HM.out.1 (by omega)).2
      obtain ⟨s1, c1⟩ := H1.out.atE HM.out.2.2.2.2 hln
      have hlt := (H1.out.ltD HM.out.2.2.2.2).2
      obtain ⟨x1, hx1⟩ : ∃ x, x = g.e.getD l 0 := ⟨_, rfl⟩
      obtain ⟨x2, hx2⟩ : ∃ x, x = g.d.getD m 0 := ⟨_, rfl⟩
      rw [← hx1] at c1
      have HX := Lib.hid (show x1 < 18446744073709551616 ∧ x2 < 18446744073709551616 ∧ g.d.getD m 0 = x2 from ⟨hx1 ▸ H1.out.we.at _, hx2 ▸ H1.out.wd.at _, hx2.symm⟩)
      have HR2 := Lib.hid (show R = if feq (fadd (fabs x1) big) big then (l, false) else if feq (fadd (fabs x2) big) big then (l, true) else startG g.d g.e big m by rw [hx1, hx2, HR1.out]; exact startG_pos _ _ _ _ _ HM.out.1)
      clear hx1 hx2 HR1
      go_upto_region 20 with (fail)
      go_wp2_with fail
      refine (RAbsF x1 s1 HX.out.1 _).mono ?_
      rintro r w1 ⟨⟨t1, rfl⟩, rfl⟩
      clear c1 hlt
      dsimp only
      go_upto_if 97 with (first | (refine wpList_flt rfl rfl rfl rfl rfl ?_; intro K hK f1 n1; go_frame; refine hK _ _ ?_; clear hK K))
      simp only [fadd_rawl, fadd_rawr, feq_rawl, feq_rawr]
      have hb1 := below_drewN n1 (Below.refl wr.heap.size wr)
      have H2 := Lib.hid (H1.out.step hb1)
      generalize wr.drewN n1 = w2 at *
      clear hb1 H1
      cases hq1 : feq (fadd (fabs x1) big) big
      · have HR3 := Lib.hid (show R = if feq (fadd (fabs x2) big) big then (l, true) else startG g.d g.e big m by have h := HR2.out; rw [hq1, if_neg (by decide)] at h; exact h)
        clear HR2 hq1
        obtain ⟨s2, c2⟩ := H2.out.atD hmn
        rw [HX.out.2.2] at c2
        have hlt := (H2.out.ltD HM.out.2.2.2.2).1
        go_wp2_with fail
        refine (RAbsF x2 s2 HX.out.2.1 _).mono ?_
        rintro r w1 ⟨⟨t2, rfl⟩, rfl⟩
        clear c2 hlt
        dsimp only
        go_upto_if 107 with (first | (refine wpList_flt rfl rfl rfl rfl rfl ?_; intro K hK f2 n2; go_frame; refine hK _ _ ?_; clear hK K))
        simp only [fadd_rawl, fadd_rawr, feq_rawl, feq_rawr]
        have hb2 := below_drewN n2 (Below.refl w2.heap.size w2)
        have H3 := Lib.hid (H2.out.step hb2)
        generalize w2.drewN n2 = w3 at *
        clear hb2 H2
        cases hq2 : feq (fadd (fabs x2) big) big
        · have HR5 := Lib.hid (show R = startG g.d g.e big m by have h := HR3.out; rw [hq2, if_neg (by decide)] at h; exact h)
          go_wp2_with fail
          go_roundw
          case rel => exact ⟨m, by have := HL.out; have := HM.out; omega, by first | rfl | rw [hi1], rfl, HR5.out, H3.out⟩
          case measure => have := HM.out.1; first | (simp [intOf]; done) | (simp [intOf, hi1]; omega) | (simp [intOf]; omega)
        · have HR5 := Lib.hid (show R = (l, true) by have h := HR3.out; rw [hq2, if_pos rfl] at h; exact h)
          have hJ := HJ.out
          have hKJ := HKJ.out
          clear HR3
          go_wp2_with fail
          go_meet
          case rel => exact ⟨by rw [HR5.out], by rw [HR5.out], H3.out⟩
      · have HR3 := Lib.hid (show R = (l, false) by have h := HR2.out; rw [hq1, if_pos rfl] at h; exact h)
        have hJ := HJ.out
        have hKJ := HKJ.out
        clear HR2
        go_wp2_with fail
        go_meet
        case rel => exact ⟨by rw [HR3.out], by rw [HR3.out], H2.out⟩
    · have HR3 := Lib.hid (show R = (l, false) by rw [HR1.out]; obtain rfl : l = 0 := by omega
                                                  rfl)
      have hJ := HJ.out
      have hKJ := HKJ.out
      clear HR1
      go_wp2_with fail
      go_meet
      case rel => exact ⟨by rw [HR3.out], by rw [HR3.out], H1.out⟩
set_option maxRecDepth 1000000 in
theorem start_part_q (c0 c1 c2 c3 c4 c5 c6 c7 c8 c9 c10 c11 c12 c13 c17 c18 c19 c21 c24 c25 c26 c27 c28 c29 c30 c31 c32 c33 c34 c35 c36 c37 c38 c39 c40 c41 c42 c43 c44 c45 c46 c47 c48 c49 c50 c51 c52 c53 c54 c55 c56 c57 c58 c59 c60 c61 c62 c63 c64 c65 c66 c67 c68 c69 c70 c71 c72 c73 c74 c75 c76 c77 c78 c79 c80 c81 c82 c83 c84 c85 c86 c87 c88 c89 c90 c91 c92 c93 c94 c95 c96 c97 c98 c99 c100 c101 c102 c103 c104 c105 c106 c107 c108 c109 c110 c111 c112 c113 c114 c115 c116 c117 c118 c119 c120 c121 c122 c123 c124 c125 c126 c127 c128 c129 c130 c131 c132 c133 c134 c135 c136 c137 c138 c139 c140 c141 c142 c143 c144 c145 c146 c147 c148 c149 c150 c151 c152 c153 c154 c155 c156 c157 c158 c159 c160 c161 c162 c163 c164 c165 c166 c167 c168 c169 c170 c171 c172 c173 c174 c175 c176 c177 c178 c179 c180 c181 c182 c183 c184 c185 c186 c187 c188 c189 c190 c191 c192 c193 c194 c195 c196 c197 c198 c199 c200 c201 c202 c203 c204 c205 c206 c207 c208 c209 c210 c211 c212 c213 c214 c215 c216 c217 c218 c219 c220 c221 c222 c223 c224 c225 c226 c227 c228 c229 c230 c231 c232 c233 c234 c235 c236 c237 c238 c239 c240 c241 c242 c243 c244 c245 c246 c247 c248 c249 c250 c251 c252 c253 c254 c255 c256 c257 c258 c259 c260 c261 c262 c263 c264 c265 c266 c267 c268 c269 c270 c271 c272 c273 c274 c275 c276 c277 c278 c279 c280 c281 c282 c283 c284 c285 c286 c287 c288 c289 c290 c291 c292 c293 c294 c295 c296 c297 c298 c299 c300 c301 c302 c303 c304 c305 c306 c307 c308 c309 c310 c311 c312 c313 c314 c315 c316 c317 c318 c319 c320 c321 c322 c323 c324 c325 c326 c327 c328 c329 c330 c331 c332 c333 c334 c335 c336 c337 c338 c339 c340 c341 c342 c343 c344 c345 c346 c347 c348 c349 c350 c351 c352 c353 c354 c355 c356 c357 c358 c359 c360 c361 c362 c363 c364 c365 c366 c367 c368 c369 c370 c371 c372 c373 c374 c375 c376 c377 c378 c379 c380 c381 c382 c383 c384 c385 c386 c387 c388 c389 c390 c391 c392 c393 c394 c395 c396 c397 c398 c399 c400 c401 c402 c403 c404 c405 c406 c407 c408 c409 c410 c411 c412 c413 c414 c415 c416 c417 c418 c419 c420 : Value) (p : RgP) (g : GkS) (big sb k : Nat) (w0 w : World) (hG : RGk w0 w p g) (hk : k < p.n) (Q : Exit → Act → World → Prop)
    (hQ : ∀ (u22 u23 u87 u88 u89 u90 u91 u92 u93 u94 u95 u96 u97 u98 u99 u100 u101 u102 u103 u104 u105 u106 u107 u108 u109 : Value) (w' : World), (u22 = .int .i64 (startG g.d g.e big k).1 ∧ u23 = .bool (startG g.d g.e big k).2 ∧ RGk w0 w' p g) → Q .normal { tmps := #[c0, c1, c2, c3, c4, c5, c6, c7, c8, c9, c10, c11, c12, c13, .slice (some ⟨p.bd, 0, none⟩) p.n p.dc, .slice (some ⟨p.be, 0, none⟩) p.ne p.ec, .float .f64 (raw big sb), c17, c18, c19, .int .i64 k, c21, u22, u23, c24, c25, c26, c27, c28, c29, c30, c31, c32, c33, c34, c35, c36, c37, c38, c39, c40, c41, c42, c43, c44, c45, c46, c47, c48, c49, c50, c51, c52, c53, c54, c55, c56, c57, c58, c59, c60, c61, c62, c63, c64, c65, c66, c67, c68, c69, c70, c71, c72, c73, c74, c75, c76, c77, c78, c79, c80, c81, c82, c83, c84, c85, c86, u87, u88, u89, u90, u91, u92, u93, u94, u95, u96, u97, u98, u99, u100, u101, u102, u103, u104, u105, u106, u107, u108, u109, c110, c111, c112, c113, c114, c115, c116, c117, c118, c119, c120, c121, c122, c123, c124, c125, c126, c127, c128, c129, c130, c131, c132, c133, c134, c135, c136, c137, c138, c139, c140, c141, c142, c143, c144, c145, c146, c147, c148, c149, c150, c151, c152, c153, c154, c155, c156, c157, c158, c159, c160, c161, c162, c163, c164, c165, c166, c167, c168, c169, c170, c171, c172, c173, c174, c175, c176, c177, c178, c179, c180, c181, c182, c183, c184, c185, c186, c187, c188, c189, c190, c191, c192, c193, c194, c195, c196, c197, c198, c199, c200, c201, c202, c203, c204, c205, c206, c207, c208, c209, c210, c211, c212, c213, c214, c215, c216, c217, c218, c219, c220, c221, c222, c223, c224, c225, c226, c227, c228, c229, c230, c231, c232, c233, c234, c235, c236, c237, c238, c239, c240, c241, c242, c243, c244, c245, c246, c247, c248, c249, c250, c251, c252, c253, c254, c255, c256, c257, c258, c259, c260, c261, c262, c263, c264, c265, c266, c267, c268, c269, c270, c271, c272, c273, c274, c275, c276, c277, c278, c279, c280, c281, c282, c283, c284, c285, c286, c287, c288, c289, c290, c291, c292, c293, c294, c295, c296, c297, c298, c299, c300, c301, c302, c303, c304, c305, c306, c307, c308, c309, c310, c311, c312, c313, c314, c315, c316, c317, c318, c319, c320, c321, c322, c323, c324, c325, c326, c327, c328, c329, c330, c331, c332, c333, c334, c335, c336, c337, c338, c339, c340, c341, c342, c343, c344, c345, c346, c347, c348, c349, c350, c351, c352, c353, c354, c355, c356, c357, c358, c359, c360, c361, c362, c363, c364, c365, c366, c367, c368, c369, c370, c371, c372, c373, c374, c375, c376, c377, c378, c379, c380, c381, c382, c383, c384, c385, c386, c387, c388, c389, c390, c391, c392, c393, c394, c395, c396, c397, c398, c399, c400, c401, c402, c403, c404, c405, c406, c407, c408, c409, c410, c411, c412, c413, c414, c415, c416, c417, c418, c419, c420], defers := [] } w') :
    Code.wp Try.prog ((findBlock (Try.f19.body.getD .skip) 6).getD .skip) Q { tmps := #[c0, c1, c2, c3, c4, c5, c6, c7, c8, c9, c10, c11, c12, c13, .slice (some ⟨p.bd, 0, none⟩) p.n p.dc, .slice (some ⟨p.be, 0, none⟩) p.ne p.ec, .float .f64 (raw big sb), c17, c18, c19, .int .i64 k, c21, .int .i64 k, .bool false, c24, c25, c26, c27, c28, c29, c30, c31, c32, c33, c34, c35, c36, c37, c38, c39, c40, c41, c42, c43, c44, c45, c46, c47, c48, c49, c50, c51, c52, c53, c54, c55, c56, c57, c58, c59, c60, c61, c62, c63, c64, c65, c66, c67, c68, c69, c70, c71, c72, c73, c74, c75, c76, c77, c78, c79, c80, c81, c82, c83, c84, c85, c86, c87, c88, c89, c90, c91, c92, c93, c94, c95, c96, c97, c98, c99, c100, c101, c102, c103, c104, c105, c106, c107, c108, c109, c110, c111, c112, c113, c114, c115, c116, c117, c118, c119, c120, c121, c122, c123, c124, c125, c126, c127, c128, c129, c130, c131, c132, c133, c134, c135, c136, c137, c138, c139, c140, c141, c142, c143, c144, c145, c146, c147, c148, c149, c150, c151, c152, c153, c154, c155, c156, c157, c158, c159, c160, c161, c162, c163, c164, c165, c166, c167, c168, c169, c170, c171, c172, c173, c174, c175, c176, c177, c178, c179, c180, c181, c182, c183, c184, c185, c186, c187, c188, c189, c190, c191, c192, c193, c194, c195, c196, c197, c198, c199, c200, c201, c202, c203, c204, c205, c206, c207, c208, c209, c210, c211, c212, c213, c214, c215, c216, c217, c218, c219, c220, c221, c222, c223, c224, c225, c226, c227, c228, c229, c230, c231, c232, c233, c234, c235, c236, c237, c238, c239, c240, c241, c242, c243, c244, c245, c246, c247, c248, c249, c250, c251, c252, c253, c254, c255, c256, c257, c258, c259, c260, c261, c262, c263, c264, c265, c266, c267, c268, c269, c270, c271, c272, c273, c274, c275, c276, c277, c278, c279, c280, c281, c282, c283, c284, c285, c286, c287, c288, c289, c290, c291, c292, c293, c294, c295, c296, c297, c298, c299, c300, c301, c302, c303, c304, c305, c306, c307, c308, c309, c310, c311, c312, c313, c314, c315, c316, c317, c318, c319, c320, c321, c322, c323, c324, c325, c326, c327, c328, c329, c330, c331, c332, c333, c334, c335, c336, c337, c338, c339, c340, c341, c342, c343, c344, c345, c346, c347, c348, c349, c350, c351, c352, c353, c354, c355, c356, c357, c358, c359, c360, c361, c362, c363, c364, c365, c366, c367, c368, c369, c370, c371, c372, c373, c374, c375, c376, c377, c378, c379, c380, c381, c382, c383, c384, c385, c386, c387, c388, c389, c390, c391, c392, c393, c394, c395, c396, c397, c398, c399, c400, c401, c402, c403, c404, c405, c406, c407, c408, c409, c410, c411, c412, c413, c414, c415, c416, c417, c418, c419, c420], defers := [] } w := by
  refine wp_mono (start_part c0 c1 c2 c3 c4 c5 c6 c7 c8 c9 c10 c11 c12 c13 c17 c18 c19 c21 c24 c25 c26 c27 c28 c29 c30 c31 c32 c33 c34 c35 c36 c37 c38 c39 c40 c41 c42 c43 c44 c45 c46 c47 c48 c49 c50 c51 c52 c53 c54 c55 c56 c57 c58 c59 c60 c61 c62 c63 c64 c65 c66 c67 c68 c69 c70 c71 c72 c73 c74 c75 c76 c77 c78 c79 c80 c81 c82 c83 c84 c85 c86 c87 c88 c89 c90 c91 c92 c93 c94 c95 c96 c97 c98 c99 c100 c101 c102 c103 c104 c105 c106 c107 c108 c109 c110 c111 c112 c113 c114 c115 c116 c117 c118 c119 c120 c121 c122 c123 c124 c125 c126 c127 c128 c129 c130 c131 c132 c133 c134 c135 c136 c137 c138 c139 c140 c141 c142 c143 c144 c145 c146 c147 c148 c149 c150 c151 c152 c153 c154 c155 c156 c157 c158 c159 c160 c161 c162 c163 c164 c165 c166 c167 c168 c169 c170 c171 c172 c173 c174 c175 c176 c177 c178 c179 c180 c181 c182 c183 c184 c185 c186 c187 c188 c189 c190 c191 c192 c193 c194 c195 c196 c197 c198 c199 c200 c201 c202 c203 c204 c205 c206 c207 c208 c209 c210 c211 c212 c213 c214 c215 c216 c217 c218 c219 c220 c221 c222 c223 c224 c225 c226 c227 c228 c229 c230 c231 c232 c233 c234 c235 c236 c237 c238 c239 c240 c241 c242 c243 c244 c245 c246 c247 c248 c249 c250 c251 c252 c253 c254 c255 c256 c257 c258 c259 c260 c261 c262 c263 c264 c265 c266 c267 c268 c269 c270 c271 c272 c273 c274 c275 c276 c277 c278 c279 c280 c281 c282 c283 c284 c285 c286 c287 c288 c289 c290 c291 c292 c293 c294 c295 c296 c297 c298 c299 c300 c301 c302 c303 c304 c305 c306 c307 c308 c309 c310 c311 c312 c313 c314 c315 c316 c317 c318 c319 c320 c321 c322 c323 c324 c325 c326 c327 c328 c329 c330 c331 c332 c333 c334 c335 c336 c337 c338 c339 c340 c341 c342 c343 c344 c345 c346 c347 c348 c349 c350 c351 c352 c353 c354 c355 c356 c357 c358 c359 c360 c361 c362 c363 c364 c365 c366 c367 c368 c369 c370 c371 c372 c373 c374 c375 c376 c377 c378 c379 c380 c381 c382 c383 c384 c385 c386 c387 c388 c389 c390 c391 c392 c393 c394 c395 c396 c397 c398 c399 c400 c401 c402 c403 c404 c405 c406 c407 c408 c409 c410 c411 c412 c413 c414 c415 c416 c417 c418 c419 c420 p g big sb k w0 w hG hk (fun a w => Q .normal a w) (fun a w => Q .normal a w) Q ?_ (fun _ _ h => h)) (fun e a w h => by cases e <;> exact h)
  intro a' w' h
  obtain ⟨u22, h⟩ := h
  obtain ⟨u23, h⟩ := h
  obtain ⟨u87, h⟩ := h
  obtain ⟨u88, h⟩ := h
  obtain ⟨u89, h⟩ := h
  obtain ⟨u90, h⟩ := h
  obtain ⟨u91, h⟩ := h
  obtain ⟨u92, h⟩ := h
  obtain ⟨u93, h⟩ := h
  obtain ⟨u94, h⟩ := h
  obtain ⟨u95, h⟩ := h
  obtain ⟨u96, h⟩ := h
  obtain ⟨u97, h⟩ := h
  obtain ⟨u98, h⟩ := h
  obtain ⟨u99, h⟩ := h
  obtain ⟨u100, h⟩ := h
  obtain ⟨u101, h⟩ := h
  obtain ⟨u102, h⟩ := h
  obtain ⟨u103, h⟩ := h
  obtain ⟨u104, h⟩ := h
  obtain ⟨u105, h⟩ := h
  obtain ⟨u106, h⟩ := h
  obtain ⟨u107, h⟩ := h
  obtain ⟨u108, h⟩ := h
  obtain ⟨u109, h⟩ := h
  obtain ⟨hr, rfl⟩ := h
  exact hQ u22 u23 u87 u88 u89 u90 u91 u92 u93 u94 u95 u96 u97 u98 u99 u100 u101 u102 u103 u104 u105 u106 u107 u108 u109 w' hr
end Go.Proofs.Ytdljnhdhigbefaa
