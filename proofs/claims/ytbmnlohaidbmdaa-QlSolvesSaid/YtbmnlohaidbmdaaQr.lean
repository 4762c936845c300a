/- The document's layer 12: parts of its Solve. No condition but on lengths and places. -/
import Derived.Test.YtbmnlohaidbmdaaQq
namespace Go.Proofs.Ytbmnlohaidbmdaa
open Go Go.RowKit
set_option maxRecDepth 1000000

/-- The block b of a text. -/
def findBlock : Code → Nat → Option Code
  | .block i c, b => if i = b then some (.block i c) else findBlock c b
  | .seq x y, b => match findBlock x b with
    | some c => some c
    | none => findBlock y b
  | .cond _ x y, b => match findBlock x b with
    | some c => some c
    | none => findBlock y b
  | .loop c, b => findBlock c b
  | .scope c, b => findBlock c b
  | .rangeFunc _ _ x y, b => match findBlock x b with
    | some c => some c
    | none => findBlock y b
  | _, _ => none
set_option maxRecDepth 1000000 in
set_option maxHeartbeats 16000000 in
theorem rows_turn (c0 c1 c2 c3 c4 c5 c6 c7 c9 c10 c12 c13 c14 c15 c16 c17 c18 c19 c22 c23 c25 c26 c27 c28 c30 c31 c32 c33 c34 c35 c36 c37 c38 c39 c40 c41 c42 c43 c44 c45 c46 c47 c48 c49 c50 c51 c52 c53 c54 c55 c56 c57 c58 c59 c60 c61 c62 c63 c64 c65 c66 c67 c68 c69 c70 c71 c72 c73 c74 c75 c76 c77 c78 c79 c80 c81 c82 c83 c84 c85 c86 c87 c88 c89 c90 c91 c92 c93 c94 c95 c96 c97 c98 c99 c100 c101 c102 c103 c104 c105 c106 c107 c108 c109 c110 c111 c112 c113 c114 c115 c116 c117 c118 c119 c120 c121 c122 c123 c124 c125 c126 c127 c128 c129 c130 c131 c132 c133 c134 c135 c136 c137 c138 c139 c140 c141 c142 c143 c144 c145 c146 c147 c148 c149 c150 c151 c152 c153 c154 c155 c156 c157 c158 c159 c160 c161 c162 c163 c164 c165 c166 c167 c168 c169 c170 c171 c172 c173 c174 c175 c176 c177 c178 c179 c180 c181 c182 c183 c184 c185 c186 c187 c188 c189 c190 c191 c192 c193 c194 c195 c196 c197 c198 c199 c200 c201 c202 c203 c204 c205 c206 c207 c208 c209 c210 c211 c212 c213 c214 c215 c216 c217 c218 c219 c220 c221 c222 c223 c224 c225 c226 c227 c228 c229 c230 c231 c232 c233 c234 c235 c236 c237 c238 c239 c240 c241 c242 c243 c244 c245 c246 c247 c248 c249 c250 c251 c252 c253 c254 c255 c256 c257 c258 c259 c260 c261 c262 c263 c264 c265 c266 c267 c268 c269 c270 c271 c272 c273 c274 c275 c276 c277 c278 c279 c280 c281 c282 c283 c284 c285 c286 c287 c288 c289 c290 c291 c292 c293 c294 c295 c296 c297 c298 c299 c300 c301 c302 c303 c304 c305 c306 c307 c308 c309 c310 : Value) (X zb rows n i c sc s ss zc M : Nat) (cols : Int) (za : Option Addr) (z : List Nat) (w : World) (hX : Box w X [.int .i64 rows, .int .i64 cols, .slice za M zc]) (hz : FS w za zb z) (hl : z.length = rows * n) (hM : z.length = M) (hi : i + 1 < n) (hne : X ≠ zb) (hr : rows ≤ 512) (hn : n ≤ 512) (J K : Act → World → Prop) (Q' : Exit → Act → World → Prop)
    (hJ : ∀ (a' : Act) (w' : World), (∃ u29 u30 u31 u32 u33 u34 u35 u222 u223 u224 u225 u226 u227 u228 u229 u230 u231 u232 u233 u234 u235 u236 u237 u238 u239 u240 u241 u242 u243 u244 u245 u246 u247 u248 u249 u250 u251 u252 u253 u254 u255 u256 u257 u258 u259 u260 u261 u262 u263 u264 u265 u266 u267 u268 u269 u270 u271 u272 u273 u274 u275 u276 u277 u278 u279 u280 u281 : Value, (FS w' za zb (turnL z n i c s rows) ∧ Bel w.heap.size zb w w') ∧ a' = { tmps := #[c0, c1, c2, c3, c4, c5, c6, c7, .int .i64 n, c9, c10, .pointer (some ⟨X, 0, none⟩), c12, c13, c14, c15, c16, c17, c18, c19, .float .f64 (raw s ss), .float .f64 (raw c sc), c22, c23, .int .i64 i, c25, c26, c27, c28, u29, u30, u31, u32, u33, u34, u35, c36, c37, c38, c39, c40, c41, c42, c43, c44, c45, c46, c47, c48, c49, c50, c51, c52, c53, c54, c55, c56, c57, c58, c59, c60, c61, c62, c63, c64, c65, c66, c67, c68, c69, c70, c71, c72, c73, c74, c75, c76, c77, c78, c79, c80, c81, c82, c83, c84, c85, c86, c87, c88, c89, c90, c91, c92, c93, c94, c95, c96, c97, c98, c99, c100, c101, c102, c103, c104, c105, c106, c107, c108, c109, c110, c111, c112, c113, c114, c115, c116, c117, c118, c119, c120, c121, c122, c123, c124, c125, c126, c127, c128, c129, c130, c131, c132, c133, c134, c135, c136, c137, c138, c139, c140, c141, c142, c143, c144, c145, c146, c147, c148, c149, c150, c151, c152, c153, c154, c155, c156, c157, c158, c159, c160, c161, c162, c163, c164, c165, c166, c167, c168, c169, c170, c171, c172, c173, c174, c175, c176, c177, c178, c179, c180, c181, c182, c183, c184, c185, c186, c187, c188, c189, c190, c191, c192, c193, c194, c195, c196, c197, c198, c199, c200, c201, c202, c203, c204, c205, c206, c207, c208, c209, c210, c211, c212, c213, c214, c215, c216, c217, c218, c219, c220, c221, u222, u223, u224, u225, u226, u227, u228, u229, u230, u231, u232, u233, u234, u235, u236, u237, u238, u239, u240, u241, u242, u243, u244, u245, u246, u247, u248, u249, u250, u251, u252, u253, u254, u255, u256, u257, u258, u259, u260, u261, u262, u263, u264, u265, u266, u267, u268, u269, u270, u271, u272, u273, u274, u275, u276, u277, u278, u279, u280, u281, c282, c283, c284, c285, c286, c287, c288, c289, c290, c291, c292, c293, c294, c295, c296, c297, c298, c299, c300, c301, c302, c303, c304, c305, c306, c307, c308, c309, c310], defers := [] }) → J a' w') (hKJ : ∀ (a' : Act) (w' : World), Met J a' w' → K a' w') :
    Code.wp Try.prog ((findBlock (Try.f14.body.getD .skip) 8).getD .skip) (Exit.then K Q') { tmps := #[c0, c1, c2, c3, c4, c5, c6, c7, .int .i64 n, c9, c10, .pointer (some ⟨X, 0, none⟩), c12, c13, c14, c15, c16, c17, c18, c19, .float .f64 (raw s ss), .float .f64 (raw c sc), c22, c23, .int .i64 i, c25, c26, c27, c28, .int .i64 (0 : Nat), c30, c31, c32, c33, c34, c35, c36, c37, c38, c39, c40, c41, c42, c43, c44, c45, c46, c47, c48, c49, c50, c51, c52, c53, c54, c55, c56, c57, c58, c59, c60, c61, c62, c63, c64, c65, c66, c67, c68, c69, c70, c71, c72, c73, c74, c75, c76, c77, c78, c79, c80, c81, c82, c83, c84, c85, c86, c87, c88, c89, c90, c91, c92, c93, c94, c95, c96, c97, c98, c99, c100, c101, c102, c103, c104, c105, c106, c107, c108, c109, c110, c111, c112, c113, c114, c115, c116, c117, c118, c119, c120, c121, c122, c123, c124, c125, c126, c127, c128, c129, c130, c131, c132, c133, c134, c135, c136, c137, c138, c139, c140, c141, c142, c143, c144, c145, c146, c147, c148, c149, c150, c151, c152, c153, c154, c155, c156, c157, c158, c159, c160, c161, c162, c163, c164, c165, c166, c167, c168, c169, c170, c171, c172, c173, c174, c175, c176, c177, c178, c179, c180, c181, c182, c183, c184, c185, c186, c187, c188, c189, c190, c191, c192, c193, c194, c195, c196, c197, c198, c199, c200, c201, c202, c203, c204, c205, c206, c207, c208, c209, c210, c211, c212, c213, c214, c215, c216, c217, c218, c219, c220, c221, c222, c223, c224, c225, c226, c227, c228, c229, c230, c231, c232, c233, c234, c235, c236, c237, c238, c239, c240, c241, c242, c243, c244, c245, c246, c247, c248, c249, c250, c251, c252, c253, c254, c255, c256, c257, c258, c259, c260, c261, c262, c263, c264, c265, c266, c267, c268, c269, c270, c271, c272, c273, c274, c275, c276, c277, c278, c279, c280, c281, c282, c283, c284, c285, c286, c287, c288, c289, c290, c291, c292, c293, c294, c295, c296, c297, c298, c299, c300, c301, c302, c303, c304, c305, c306, c307, c308, c309, c310], defers := [] } w := by
  conv => arg 2; whnf
  have HKJ := Lib.hid hKJ
  have HJ := Lib.hid hJ
  clear hJ hKJ
  go_wp2_with fail
  go_loopw [29] (fun s29 wr => ∃ r : Nat, s29 = .int .i64 r ∧ r ≤ rows ∧ FS wr za zb (turnL z n i c s r) ∧ Bel w.heap.size zb w wr) (fun s29 _ => rows - (intOf s29).toNat)
  case atStart => exact ⟨0, rfl, Nat.zero_le _, hz, Bel.refl _ _ _⟩
  case round =>
    obtain ⟨r, rfl, hrr, hF, hB⟩ := hrel
    have hXr := hX.belB hX.lt hne hB
    obtain ⟨q1, q2, q3⟩ := hXr.facts
    by_cases hlt : r < rows
    · have hlen := turnL_len z n i c s r
      have hpl := place_ltq hlt (show i + 1 < n from hi)
      obtain ⟨rfl, hzb⟩ := hF.flb (by omega)
      obtain ⟨sa, ca⟩ := hzb.at (i := r * n + i) (by omega)
      obtain ⟨sb, cb⟩ := hzb.at (i := r * n + i + 1) (by omega)
      have HG := Lib.hid (show r * n + i < (turnL z n i c s r).length ∧ r * n + i + 1 < (turnL z n i c s r).length from by omega)
      have HT := Lib.hid (show turnL z n i c s (r + 1) = turnR (turnL z n i c s r) n i c s r from rfl)
      have hzlt := hzb.lt
      have hzfz := hzb.frozen
      have hrc : r * n ≤ 262144 := Nat.le_trans (Nat.mul_le_mul (show r ≤ 512 by omega) hn) (by decide)
      have hm1 : (r : Int) * (n : Int) = ((r * n : Nat) : Int) := (Int.natCast_mul _ _).symm
      have hm2 : ((r : Int) * (n : Int) + (i : Int)).toNat = r * n + i := by rw [hm1]; omega
      have hm3 : 0 ≤ (r : Int) * (n : Int) + (i : Int) := by rw [hm1]; omega
      have hm4 : (r : Int) * (n : Int) + (i : Int) < (M : Int) := by rw [hm1]; omega
      have hn2 : ((r : Int) * (n : Int) + (i : Int) + 1).toNat = r * n + i + 1 := by rw [hm1]; omega
      have hn3 : 0 ≤ (r : Int) * (n : Int) + (i : Int) + 1 := by rw [hm1]; omega
      have hn4 : (r : Int) * (n : Int) + (i : Int) + 1 < (M : Int) := by rw [hm1]; omega
      have hv1 : IntKind.i64.wrap ((r : Int) * (n : Int)) = (r : Int) * (n : Int) := wi64n _ hm1 (by omega)
      have hv2 : IntKind.i64.wrap ((r : Int) * (n : Int) + (i : Int)) = (r : Int) * (n : Int) + (i : Int) := wi64n (r * n + i) (by rw [hm1]; omega) (by omega)
      have hv3 : IntKind.i64.wrap ((r : Int) * (n : Int) + (i : Int) + 1) = (r : Int) * (n : Int) + (i : Int) + 1 := wi64n (r * n + i + 1) (by rw [hm1]; omega) (by omega)
      obtain ⟨hw1, hw2, hw3⟩ : (wrap64 ((r : Int) * (n : Int)) = (r : Int) * (n : Int)) ∧ (wrap64 ((r : Int) * (n : Int) + (i : Int)) = (r : Int) * (n : Int) + (i : Int)) ∧ (wrap64 ((r : Int) * (n : Int) + (i : Int) + 1) = (r : Int) * (n : Int) + (i : Int) + 1) := ⟨w64n _ hm1 (by omega), w64n (r * n + i) (by rw [hm1]; omega) (by omega), w64n (r * n + i + 1) (by rw [hm1]; omega) (by omega)⟩
      have HR := Lib.hid (show _ ∧ _ ∧ _ from ⟨hzb, hB, hXr⟩)
      have HL := Lib.hid (show _ ∧ _ ∧ _ ∧ _ from ⟨hl, hpl, hM, hz⟩)
      have hXn : X ≠ zb := hne
      clear hzb hB hXr hF hlen hl hpl hrc hm1 hX hM hz
      generalize hva : (turnL z n i c s r).getD (r * n + i) 0 = va at *
      generalize hvb : (turnL z n i c s r).getD (r * n + i + 1) 0 = vb at *
      have HV := Lib.hid (And.intro hva hvb)
      clear hva hvb
      go_wp2_with fail
      refine wp_region_nqb 20 (fun _ _ _ => False) (by kernel_rfl) (by kernel_rfl) ?_
      intro C R hc hb' hb2 hd hR
      simp only [List.take_succ_cons, List.take_zero]
      repeat (
        first
          | (refine nqW_plain (fun K hK => ?_))
          | (refine nqW_step (fun K hK => ?_); go_simp)
        first
          | (refine nq_move rfl ?_; go_simp; refine hK _ ?_; clear hK K)
          | (refine nq_assign rfl ?_; go_simp; refine hK _ ?_; clear hK K)
          | (refine nq_flt rfl rfl rfl rfl hd ?_; intro _; go_frame; refine hK _ ?_; clear hK K)
          | (refine nq_same ?_; intro w' hw'; go_simp; (try go_bits); refine hK _ ?_; clear hK K hw' w')
          | (refine nq_same ?_; intro w' hw'; go_simp; rw [if_pos (by omega)]; go_simp; (try go_bits); refine hK _ ?_; clear hK K hw' w')
          | (go_simp; refine hK _ ?_; clear hK K))
      refine nqW_nil (hR _ ?_)
      clear hc hb' hb2 hd hR
      intro w' hw'
      simp only [List.drop]
      have hzb := HR.out.1.below hw'
      have hbz := HR.out.2.2.below hw'
      have hB2 := bel_step HR.out.2.1 HR.out.2.1.size (Bel.of hw')
      clear ca cb hzlt hzfz q1 q2 q3 hw' hv1 hv2 hv3
      obtain ⟨sc1, ca⟩ := hzb.at (i := r * n + i) HG.out.1
      obtain ⟨sd1, cb⟩ := hzb.at (i := r * n + i + 1) HG.out.2
      have hzlt := hzb.lt
      have hzfz := hzb.frozen
      obtain ⟨q1, q2, q3⟩ := hbz.facts
      have HR2 := Lib.hid (show _ ∧ _ from ⟨hzb, hB2⟩)
      have hXn2 : zb ≠ X := Ne.symm hne
      clear hzb hbz hB2
      go_wp2_with (first | (refine wpList_flt rfl rfl rfl rfl rfl ?_; intro K hK _ _; go_frame; refine hK _ _ ?_; clear hK K))
      rename_i k1 m1 k2 m2 k3 m3 k4 m4 k5 m5 k6 m6
      go_roundw
      case rel =>
        have hd1 : Below w'.heap.size w' (w'.drewN (m1 + m2 + m3 + m4 + m5)) := below_drewN _ (Below.refl _ _)
        have e1 := (HR2.out.1.below hd1).set (r * n + i) (fsub (fmul c va) (fmul s vb)) k5
        have e2 := (bel_step HR2.out.2 HR2.out.2.size (Bel.of hd1)).set (r * n + i) (.float .f64 (raw (fsub (fmul c va) (fmul s vb)) k5))
        generalize (w'.drewN (m1 + m2 + m3 + m4 + m5)).setCell ⟨zb, r * n + i, none⟩ (.float .f64 (raw (fsub (fmul c va) (fmul s vb)) k5)) = wa at *
        have hd2 : Below wa.heap.size wa (wa.drewN m6) := below_drewN _ (Below.refl _ _)
        refine ⟨r + 1, by go_num, hlt, .inr ⟨rfl, ?_⟩, (bel_step e2 e2.size (Bel.of hd2)).set _ _⟩
        rw [HT.out]
        unfold turnR
        rw [HV.out.1, HV.out.2]
        exact (e1.below hd2).set (r * n + i + 1) _ k6
      case measure => simp [intOf]; omega
    · obtain rfl : r = rows := by omega
      have HF := Lib.hid (show _ ∧ _ from ⟨hF, hB⟩)
      have hJ := HJ.out
      have hKJ := HKJ.out
      clear hF hB hXr
      go_wp2_with fail
      go_meet
      case rel => exact HF.out
set_option maxRecDepth 1000000 in
theorem rows_turn_q (c0 c1 c2 c3 c4 c5 c6 c7 c9 c10 c12 c13 c14 c15 c16 c17 c18 c19 c22 c23 c25 c26 c27 c28 c30 c31 c32 c33 c34 c35 c36 c37 c38 c39 c40 c41 c42 c43 c44 c45 c46 c47 c48 c49 c50 c51 c52 c53 c54 c55 c56 c57 c58 c59 c60 c61 c62 c63 c64 c65 c66 c67 c68 c69 c70 c71 c72 c73 c74 c75 c76 c77 c78 c79 c80 c81 c82 c83 c84 c85 c86 c87 c88 c89 c90 c91 c92 c93 c94 c95 c96 c97 c98 c99 c100 c101 c102 c103 c104 c105 c106 c107 c108 c109 c110 c111 c112 c113 c114 c115 c116 c117 c118 c119 c120 c121 c122 c123 c124 c125 c126 c127 c128 c129 c130 c131 c132 c133 c134 c135 c136 c137 c138 c139 c140 c141 c142 c143 c144 c145 c146 c147 c148 c149 c150 c151 c152 c153 c154 c155 c156 c157 c158 c159 c160 c161 c162 c163 c164 c165 c166 c167 c168 c169 c170 c171 c172 c173 c174 c175 c176 c177 c178 c179 c180 c181 c182 c183 c184 c185 c186 c187 c188 c189 c190 c191 c192 c193 c194 c195 c196 c197 c198 c199 c200 c201 c202 c203 c204 c205 c206 c207 c208 c209 c210 c211 c212 c213 c214 c215 c216 c217 c218 c219 c220 c221 c222 c223 c224 c225 c226 c227 c228 c229 c230 c231 c232 c233 c234 c235 c236 c237 c238 c239 c240 c241 c242 c243 c244 c245 c246 c247 c248 c249 c250 c251 c252 c253 c254 c255 c256 c257 c258 c259 c260 c261 c262 c263 c264 c265 c266 c267 c268 c269 c270 c271 c272 c273 c274 c275 c276 c277 c278 c279 c280 c281 c282 c283 c284 c285 c286 c287 c288 c289 c290 c291 c292 c293 c294 c295 c296 c297 c298 c299 c300 c301 c302 c303 c304 c305 c306 c307 c308 c309 c310 : Value) (X zb rows n i c sc s ss zc M : Nat) (cols : Int) (za : Option Addr) (z : List Nat) (w : World) (hX : Box w X [.int .i64 rows, .int .i64 cols, .slice za M zc]) (hz : FS w za zb z) (hl : z.length = rows * n) (hM : z.length = M) (hi : i + 1 < n) (hne : X ≠ zb) (hr : rows ≤ 512) (hn : n ≤ 512) (Q : Exit → Act → World → Prop)
    (hQ : ∀ (u29 u30 u31 u32 u33 u34 u35 u222 u223 u224 u225 u226 u227 u228 u229 u230 u231 u232 u233 u234 u235 u236 u237 u238 u239 u240 u241 u242 u243 u244 u245 u246 u247 u248 u249 u250 u251 u252 u253 u254 u255 u256 u257 u258 u259 u260 u261 u262 u263 u264 u265 u266 u267 u268 u269 u270 u271 u272 u273 u274 u275 u276 u277 u278 u279 u280 u281 : Value) (w' : World), (FS w' za zb (turnL z n i c s rows) ∧ Bel w.heap.size zb w w') → Q .normal { tmps := #[c0, c1, c2, c3, c4, c5, c6, c7, .int .i64 n, c9, c10, .pointer (some ⟨X, 0, none⟩), c12, c13, c14, c15, c16, c17, c18, c19, .float .f64 (raw s ss), .float .f64 (raw c sc), c22, c23, .int .i64 i, c25, c26, c27, c28, u29, u30, u31, u32, u33, u34, u35, c36, c37, c38, c39, c40, c41, c42, c43, c44, c45, c46, c47, c48, c49, c50, c51, c52, c53, c54, c55, c56, c57, c58, c59, c60, c61, c62, c63, c64, c65, c66, c67, c68, c69, c70, c71, c72, c73, c74, c75, c76, c77, c78, c79, c80, c81, c82, c83, c84, c85, c86, c87, c88, c89, c90, c91, c92, c93, c94, c95, c96, c97, c98, c99, c100, c101, c102, c103, c104, c105, c106, c107, c108, c109, c110, c111, c112, c113, c114, c115, c116, c117, c118, c119, c120, c121, c122, c123, c124, c125, c126, c127, c128, c129, c130, c131, c132, c133, c134, c135, c136, c137, c138, c139, c140, c141, c142, c143, c144, c145, c146, c147, c148, c149, c150, c151, c152, c153, c154, c155, c156, c157, c158, c159, c160, c161, c162, c163, c164, c165, c166, c167, c168, c169, c170, c171, c172, c173, c174, c175, c176, c177, c178, c179, c180, c181, c182, c183, c184, c185, c186, c187, c188, c189, c190, c191, c192, c193, c194, c195, c196, c197, c198, c199, c200, c201, c202, c203, c204, c205, c206, c207, c208, c209, c210, c211, c212, c213, c214, c215, c216, c217, c218, c219, c220, c221, u222, u223, u224, u225, u226, u227, u228, u229, u230, u231, u232, u233, u234, u235, u236, u237, u238, u239, u240, u241, u242, u243, u244, u245, u246, u247, u248, u249, u250, u251, u252, u253, u254, u255, u256, u257, u258, u259, u260, u261, u262, u263, u264, u265, u266, u267, u268, u269, u270, u271, u272, u273, u274, u275, u276, u277, u278, u279, u280, u281, c282, c283, c284, c285, c286, c287, c288, c289, c290, c291, c292, c293, c294, c295, c296, c297, c298, c299, c300, c301, c302, c303, c304, c305, c306, c307, c308, c309, c310], defers := [] } w') :
    Code.wp Try.prog ((findBlock (Try.f14.body.getD .skip) 8).getD .skip) Q { tmps := #[c0, c1, c2, c3, c4, c5, c6, c7, .int .i64 n, c9, c10, .pointer (some ⟨X, 0, none⟩), c12, c13, c14, c15, c16, c17, c18, c19, .float .f64 (raw s ss), .float .f64 (raw c sc), c22, c23, .int .i64 i, c25, c26, c27, c28, .int .i64 (0 : Nat), c30, c31, c32, c33, c34, c35, c36, c37, c38, c39, c40, c41, c42, c43, c44, c45, c46, c47, c48, c49, c50, c51, c52, c53, c54, c55, c56, c57, c58, c59, c60, c61, c62, c63, c64, c65, c66, c67, c68, c69, c70, c71, c72, c73, c74, c75, c76, c77, c78, c79, c80, c81, c82, c83, c84, c85, c86, c87, c88, c89, c90, c91, c92, c93, c94, c95, c96, c97, c98, c99, c100, c101, c102, c103, c104, c105, c106, c107, c108, c109, c110, c111, c112, c113, c114, c115, c116, c117, c118, c119, c120, c121, c122, c123, c124, c125, c126, c127, c128, c129, c130, c131, c132, c133, c134, c135, c136, c137, c138, c139, c140, c141, c142, c143, c144, c145, c146, c147, c148, c149, c150, c151, c152, c153, c154, c155, c156, c157, c158, c159, c160, c161, c162, c163, c164, c165, c166, c167, c168, c169, c170, c171, c172, c173, c174, c175, c176, c177, c178, c179, c180, c181, c182, c183, c184, c185, c186, c187, c188, c189, c190, c191, c192, c193, c194, c195, c196, c197, c198, c199, c200, c201, c202, c203, c204, c205, c206, c207, c208, c209, c210, c211, c212, c213, c214, c215, c216, c217, c218, c219, c220, c221, c222, c223, c224, c225, c226, c227, c228, c229, c230, c231, c232, c233, c234, c235, c236, c237, c238, c239, c240, c241, c242, c243, c244, c245, c246, c247, c248, c249, c250, c251, c252, c253, c254, c255, c256, c257, c258, c259, c260, c261, c262, c263, c264, c265, c266, c267, c268, c269, c270, c271, c272, c273, c274, c275, c276, c277, c278, c279, c280, c281, c282, c283, c284, c285, c286, c287, c288, c289, c290, c291, c292, c293, c294, c295, c296, c297, c298, c299, c300, c301, c302, c303, c304, c305, c306, c307, c308, c309, c310], defers := [] } w := by
  refine wp_mono (rows_turn c0 c1 c2 c3 c4 c5 c6 c7 c9 c10 c12 c13 c14 c15 c16 c17 c18 c19 c22 c23 c25 c26 c27 c28 c30 c31 c32 c33 c34 c35 c36 c37 c38 c39 c40 c41 c42 c43 c44 c45 c46 c47 c48 c49 c50 c51 c52 c53 c54 c55 c56 c57 c58 c59 c60 c61 c62 c63 c64 c65 c66 c67 c68 c69 c70 c71 c72 c73 c74 c75 c76 c77 c78 c79 c80 c81 c82 c83 c84 c85 c86 c87 c88 c89 c90 c91 c92 c93 c94 c95 c96 c97 c98 c99 c100 c101 c102 c103 c104 c105 c106 c107 c108 c109 c110 c111 c112 c113 c114 c115 c116 c117 c118 c119 c120 c121 c122 c123 c124 c125 c126 c127 c128 c129 c130 c131 c132 c133 c134 c135 c136 c137 c138 c139 c140 c141 c142 c143 c144 c145 c146 c147 c148 c149 c150 c151 c152 c153 c154 c155 c156 c157 c158 c159 c160 c161 c162 c163 c164 c165 c166 c167 c168 c169 c170 c171 c172 c173 c174 c175 c176 c177 c178 c179 c180 c181 c182 c183 c184 c185 c186 c187 c188 c189 c190 c191 c192 c193 c194 c195 c196 c197 c198 c199 c200 c201 c202 c203 c204 c205 c206 c207 c208 c209 c210 c211 c212 c213 c214 c215 c216 c217 c218 c219 c220 c221 c222 c223 c224 c225 c226 c227 c228 c229 c230 c231 c232 c233 c234 c235 c236 c237 c238 c239 c240 c241 c242 c243 c244 c245 c246 c247 c248 c249 c250 c251 c252 c253 c254 c255 c256 c257 c258 c259 c260 c261 c262 c263 c264 c265 c266 c267 c268 c269 c270 c271 c272 c273 c274 c275 c276 c277 c278 c279 c280 c281 c282 c283 c284 c285 c286 c287 c288 c289 c290 c291 c292 c293 c294 c295 c296 c297 c298 c299 c300 c301 c302 c303 c304 c305 c306 c307 c308 c309 c310 X zb rows n i c sc s ss zc M cols za z w hX hz hl hM hi hne hr hn (fun a w => Q .normal a w) (fun a w => Q .normal a w) Q ?_ (fun _ _ h => h)) (fun e a w h => by cases e <;> exact h)
  intro a' w' h
  obtain ⟨u29, h⟩ := h
  obtain ⟨u30, h⟩ := h
  obtain ⟨u31, h⟩ := h
  obtain ⟨u32, h⟩ := h
  obtain ⟨u33, h⟩ := h
  obtain ⟨u34, h⟩ := h
  obtain ⟨u35, h⟩ := h
  obtain ⟨u222, h⟩ := h
  obtain ⟨u223, h⟩ := h
  obtain ⟨u224, h⟩ := h
  obtain ⟨u225, h⟩ := h
  obtain ⟨u226, h⟩ := h
  obtain ⟨u227, h⟩ := h
  obtain ⟨u228, h⟩ := h
  obtain ⟨u229, h⟩ := h
  obtain ⟨u230, h⟩ := h
  obtain ⟨u231, h⟩ := h
  obtain ⟨u232, h⟩ := h
  obtain ⟨u233, h⟩ := h
  obtain ⟨u234, h⟩ := h
  obtain ⟨u235, h⟩ := h
  obtain ⟨u236, h⟩ := h
  obtain ⟨u237, h⟩ := h
  obtain ⟨u238, h⟩ := h
  obtain ⟨u239, h⟩ := h
  obtain ⟨u240, h⟩ := h
  obtain ⟨u241, h⟩ := h
  obtain ⟨u242, h⟩ := h
  obtain ⟨u243, h⟩ := h
  obtain ⟨u244, h⟩ := h
  obtain ⟨u245, h⟩ := h
  obtain ⟨u246, h⟩ := h
  obtain ⟨u247, h⟩ := h
  obtain ⟨u248, h⟩ := h
  obtain ⟨u249, h⟩ := h
  obtain ⟨u250, h⟩ := h
  obtain ⟨u251, h⟩ := h
  obtain ⟨u252, h⟩ := h
  obtain ⟨u253, h⟩ := h
  obtain ⟨u254, h⟩ := h
  obtain ⟨u255, h⟩ := h
  obtain ⟨u256, h⟩ := h
  obtain ⟨u257, h⟩ := h
  obtain ⟨u258, h⟩ := h
  obtain ⟨u259, h⟩ := h
  obtain ⟨u260, h⟩ := h
  obtain ⟨u261, h⟩ := h
  obtain ⟨u262, h⟩ := h
  obtain ⟨u263, h⟩ := h
  obtain ⟨u264, h⟩ := h
  obtain ⟨u265, h⟩ := h
  obtain ⟨u266, h⟩ := h
  obtain ⟨u267, h⟩ := h
  obtain ⟨u268, h⟩ := h
  obtain ⟨u269, h⟩ := h
  obtain ⟨u270, h⟩ := h
  obtain ⟨u271, h⟩ := h
  obtain ⟨u272, h⟩ := h
  obtain ⟨u273, h⟩ := h
  obtain ⟨u274, h⟩ := h
  obtain ⟨u275, h⟩ := h
  obtain ⟨u276, h⟩ := h
  obtain ⟨u277, h⟩ := h
  obtain ⟨u278, h⟩ := h
  obtain ⟨u279, h⟩ := h
  obtain ⟨u280, h⟩ := h
  obtain ⟨u281, h⟩ := h
  obtain ⟨hr, rfl⟩ := h
  exact hQ u29 u30 u31 u32 u33 u34 u35 u222 u223 u224 u225 u226 u227 u228 u229 u230 u231 u232 u233 u234 u235 u236 u237 u238 u239 u240 u241 u242 u243 u244 u245 u246 u247 u248 u249 u250 u251 u252 u253 u254 u255 u256 u257 u258 u259 u260 u261 u262 u263 u264 u265 u266 u267 u268 u269 u270 u271 u272 u273 u274 u275 u276 u277 u278 u279 u280 u281 w' hr
end Go.Proofs.Ytbmnlohaidbmdaa
