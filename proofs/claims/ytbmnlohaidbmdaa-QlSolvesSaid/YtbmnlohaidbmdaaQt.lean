/- The document's layer 12: a part of its Solve: a sweep's steps. No condition but on lengths and places. -/
import Derived.Test.YtbmnlohaidbmdaaQs
import Derived.Deep.CutBlock
namespace Go.Proofs.Ytbmnlohaidbmdaa
open Go Go.RowKit
set_option maxRecDepth 1000000

theorem FS.bls {W W' : World} {L : List Nat} {B b : Nat} {a : Option Addr} {l : List Nat} (h : FS W a b l) (hb : Bls L B W W') (hB : b < B) (hn : b ∉ L) : FS W' a b l := h.imp id (fun ⟨h1, h2⟩ => ⟨h1, h2.bls hb hB hn⟩)
theorem FS.bel {W W' : World} {b s : Nat} {a : Option Addr} {l : List Nat} (h : FS W a b l) (hs : b ≠ s) (hb : Bel W.heap.size s W W') : FS W' a b l := h.imp id (fun ⟨h1, h2⟩ => ⟨h1, h2.bel hs hb⟩)
set_option maxRecDepth 1000000 in
set_option maxHeartbeats 32000000 in
theorem sweep_steps (c0 c1 c2 c3 c4 c5 c6 c7 c12 c14 c16 c18 c19 c25 c26 c27 c28 c29 c30 c31 c32 c33 c34 c35 c36 c37 c38 c39 c40 c41 c42 c43 c44 c45 c46 c47 c48 c49 c50 c51 c52 c53 c54 c55 c56 c57 c58 c59 c60 c61 c62 c63 c64 c65 c66 c67 c68 c69 c70 c71 c72 c73 c74 c75 c76 c77 c78 c79 c80 c81 c82 c83 c84 c85 c86 c87 c88 c89 c90 c91 c92 c93 c94 c95 c96 c97 c98 c99 c100 c101 c102 c103 c104 c105 c106 c107 c108 c109 c110 c111 c112 c113 c114 c115 c116 c117 c118 c119 c120 c121 c122 c123 c124 c125 c126 c127 c128 c129 c130 c131 c132 c133 c134 c135 c136 c137 c138 c139 c140 c141 c142 c143 c144 c145 c146 c147 c148 c149 c150 c151 c152 c153 c154 c155 c156 c157 c158 c159 c160 c161 c162 c163 c164 c165 c166 c167 c168 c169 c170 c171 c172 c173 c174 c175 c176 c177 c178 c179 c180 c181 c182 c183 c184 c185 c186 c187 c188 c189 c190 c191 c192 c193 c194 c195 c196 c197 c198 c199 c200 c201 c202 c203 c204 c205 c206 c207 c208 c209 c210 c211 c212 c213 c214 c215 c216 c217 c218 c219 c220 c221 c222 c223 c224 c225 c226 c227 c228 c229 c230 c231 c232 c233 c234 c235 c236 c237 c238 c239 c240 c241 c242 c243 c244 c245 c246 c247 c248 c249 c250 c251 c252 c253 c254 c255 c256 c257 c258 c259 c260 c261 c262 c263 c264 c265 c266 c267 c268 c269 c270 c271 c272 c273 c274 c275 c276 c277 c278 c279 c280 c281 c282 c283 c284 c285 c286 c287 c288 c289 c290 c291 c292 c293 c294 c295 c296 c297 c298 c299 c300 c301 c302 c303 c304 c305 c306 c307 c308 c309 c310 : Value) (X bd be zb rows n cd ce zc l m M g0 sg : Nat) (cols : Int) (za : Option Addr) (d e z : List Nat) (w : World) (hX : Box w X [.int .i64 rows, .int .i64 cols, .slice za M zc]) (hd : Flb w bd d) (he : Flb w be e) (hz : FS w za zb z) (hdl : d.length = n) (hel : e.length = n) (hzl : z.length = M) (hM : M = rows * n) (hg0 : g0 < 18446744073709551616) (hl : l < m) (hm : m < n) (hn : n ≤ 512) (hr : rows ≤ 512) (h1 : X ≠ bd) (h2 : X ≠ be) (h3 : X ≠ zb) (h4 : bd ≠ be) (h5 : bd ≠ zb) (h6 : be ≠ zb) (J K : Act → World → Prop) (Q' : Exit → Act → World → Prop)
    (hJ : ∀ (a' : Act) (w' : World), (∃ u17 u18 u20 u21 u22 u23 u24 u25 u26 u27 u28 u29 u30 u31 u32 u33 u34 u35 u136 u137 u138 u139 u140 u141 u142 u143 u144 u145 u146 u147 u148 u149 u150 u151 u152 u153 u154 u155 u156 u157 u158 u159 u160 u161 u162 u163 u164 u165 u166 u167 u168 u169 u170 u171 u172 u173 u174 u175 u176 u177 u178 u179 u180 u181 u182 u183 u184 u185 u186 u187 u188 u189 u190 u191 u192 u193 u194 u195 u196 u197 u198 u199 u200 u201 u202 u203 u204 u205 u206 u207 u208 u209 u210 u211 u212 u213 u214 u215 u216 u217 u218 u219 u220 u221 u222 u223 u224 u225 u226 u227 u228 u229 u230 u231 u232 u233 u234 u235 u236 u237 u238 u239 u240 u241 u242 u243 u244 u245 u246 u247 u248 u249 u250 u251 u252 u253 u254 u255 u256 u257 u258 u259 u260 u261 u262 u263 u264 u265 u266 u267 u268 u269 u270 u271 u272 u273 u274 u275 u276 u277 u278 u279 u280 u281 : Value, (∃ (y : SwS × Bool) (t17 t22 : Nat), y = swL n rows l m (m - l) ⟨d, e, z, g0, 4607182418800017408, 4607182418800017408, 0⟩ ∧ u17 = .float .f64 (raw y.1.g t17) ∧ u22 = .float .f64 (raw y.1.p t22) ∧ u23 = .bool y.2 ∧ Flb w' bd y.1.d ∧ Flb w' be y.1.e ∧ FS w' za zb y.1.z ∧ Bls [bd, be, zb] w.heap.size w w') ∧ a' = { tmps := #[c0, c1, c2, c3, c4, c5, c6, c7, .int .i64 n, .slice (some ⟨bd, 0, none⟩) n cd, .slice (some ⟨be, 0, none⟩) n ce, .pointer (some ⟨X, 0, none⟩), c12, .int .i64 l, c14, .int .i64 m, c16, u17, u18, c19, u20, u21, u22, u23, u24, u25, u26, u27, u28, u29, u30, u31, u32, u33, u34, u35, c36, c37, c38, c39, c40, c41, c42, c43, c44, c45, c46, c47, c48, c49, c50, c51, c52, c53, c54, c55, c56, c57, c58, c59, c60, c61, c62, c63, c64, c65, c66, c67, c68, c69, c70, c71, c72, c73, c74, c75, c76, c77, c78, c79, c80, c81, c82, c83, c84, c85, c86, c87, c88, c89, c90, c91, c92, c93, c94, c95, c96, c97, c98, c99, c100, c101, c102, c103, c104, c105, c106, c107, c108, c109, c110, c111, c112, c113, c114, c115, c116, c117, c118, c119, c120, c121, c122, c123, c124, c125, c126, c127, c128, c129, c130, c131, c132, c133, c134, c135, u136, u137, u138, u139, u140, u141, u142, u143, u144, u145, u146, u147, u148, u149, u150, u151, u152, u153, u154, u155, u156, u157, u158, u159, u160, u161, u162, u163, u164, u165, u166, u167, u168, u169, u170, u171, u172, u173, u174, u175, u176, u177, u178, u179, u180, u181, u182, u183, u184, u185, u186, u187, u188, u189, u190, u191, u192, u193, u194, u195, u196, u197, u198, u199, u200, u201, u202, u203, u204, u205, u206, u207, u208, u209, u210, u211, u212, u213, u214, u215, u216, u217, u218, u219, u220, u221, u222, u223, u224, u225, u226, u227, u228, u229, u230, u231, u232, u233, u234, u235, u236, u237, u238, u239, u240, u241, u242, u243, u244, u245, u246, u247, u248, u249, u250, u251, u252, u253, u254, u255, u256, u257, u258, u259, u260, u261, u262, u263, u264, u265, u266, u267, u268, u269, u270, u271, u272, u273, u274, u275, u276, u277, u278, u279, u280, u281, c282, c283, c284, c285, c286, c287, c288, c289, c290, c291, c292, c293, c294, c295, c296, c297, c298, c299, c300, c301, c302, c303, c304, c305, c306, c307, c308, c309, c310], defers := [] }) → J a' w') (hKJ : ∀ (a' : Act) (w' : World), Met J a' w' → K a' w') :
    Code.wp Try.prog ((findBlock (Try.f14.body.getD .skip) 6).getD .skip) (Exit.then K Q') { tmps := #[c0, c1, c2, c3, c4, c5, c6, c7, .int .i64 n, .slice (some ⟨bd, 0, none⟩) n cd, .slice (some ⟨be, 0, none⟩) n ce, .pointer (some ⟨X, 0, none⟩), c12, .int .i64 l, c14, .int .i64 m, c16, .float .f64 (raw g0 sg), c18, c19, .float .f64 4607182418800017408, .float .f64 4607182418800017408, .float .f64 0, .bool false, .int .i64 ((m : Int) - 1), c25, c26, c27, c28, c29, c30, c31, c32, c33, c34, c35, c36, c37, c38, c39, c40, c41, c42, c43, c44, c45, c46, c47, c48, c49, c50, c51, c52, c53, c54, c55, c56, c57, c58, c59, c60, c61, c62, c63, c64, c65, c66, c67, c68, c69, c70, c71, c72, c73, c74, c75, c76, c77, c78, c79, c80, c81, c82, c83, c84, c85, c86, c87, c88, c89, c90, c91, c92, c93, c94, c95, c96, c97, c98, c99, c100, c101, c102, c103, c104, c105, c106, c107, c108, c109, c110, c111, c112, c113, c114, c115, c116, c117, c118, c119, c120, c121, c122, c123, c124, c125, c126, c127, c128, c129, c130, c131, c132, c133, c134, c135, c136, c137, c138, c139, c140, c141, c142, c143, c144, c145, c146, c147, c148, c149, c150, c151, c152, c153, c154, c155, c156, c157, c158, c159, c160, c161, c162, c163, c164, c165, c166, c167, c168, c169, c170, c171, c172, c173, c174, c175, c176, c177, c178, c179, c180, c181, c182, c183, c184, c185, c186, c187, c188, c189, c190, c191, c192, c193, c194, c195, c196, c197, c198, c199, c200, c201, c202, c203, c204, c205, c206, c207, c208, c209, c210, c211, c212, c213, c214, c215, c216, c217, c218, c219, c220, c221, c222, c223, c224, c225, c226, c227, c228, c229, c230, c231, c232, c233, c234, c235, c236, c237, c238, c239, c240, c241, c242, c243, c244, c245, c246, c247, c248, c249, c250, c251, c252, c253, c254, c255, c256, c257, c258, c259, c260, c261, c262, c263, c264, c265, c266, c267, c268, c269, c270, c271, c272, c273, c274, c275, c276, c277, c278, c279, c280, c281, c282, c283, c284, c285, c286, c287, c288, c289, c290, c291, c292, c293, c294, c295, c296, c297, c298, c299, c300, c301, c302, c303, c304, c305, c306, c307, c308, c309, c310], defers := [] } w := by
  conv => arg 2; whnf
  have HKJ := Lib.hid hKJ
  have HJ := Lib.hid hJ
  obtain ⟨S0, hS0⟩ : ∃ S0 : SwS, S0 = ⟨d, e, z, g0, 4607182418800017408, 4607182418800017408, 0⟩ := ⟨_, rfl⟩
  rw [← hS0] at HJ
  have HS0 := Lib.hid (show _ ∧ _ ∧ _ ∧ _ ∧ _ ∧ _ ∧ _ ∧ _ from ⟨hS0, hd, he, hz, hdl, hel, hzl, hg0⟩)
  have HX := Lib.hid (And.intro hX hM)
  clear hJ hKJ hd he hz hdl hel hzl hg0 hS0 hX hM
  go_wp2_with fail
  go_loopw [17, 20, 21, 22, 23, 24] (fun s17 s20 s21 s22 s23 s24 wr => ∃ (k : Nat) (S : SwS) (t17 t20 t21 t22 : Nat), s17 = .float .f64 (raw S.g t17) ∧ s20 = .float .f64 (raw S.s t20) ∧ s21 = .float .f64 (raw S.c t21) ∧ s22 = .float .f64 (raw S.p t22) ∧ s23 = .bool false ∧ s24 = .int .i64 ((l : Int) + k - 1) ∧ k ≤ m - l ∧ S.d.length = n ∧ S.e.length = n ∧ S.z.length = M ∧ S.g < 18446744073709551616 ∧ swL n rows l m (m - l) S0 = swL n rows l m k S ∧ Flb wr bd S.d ∧ Flb wr be S.e ∧ FS wr za zb S.z ∧ Bls [bd, be, zb] w.heap.size w wr) (fun _ _ _ _ _ s24 _ => (intOf s24 - l + 1).toNat)
  case atStart =>
    obtain ⟨hS, f1, f2, f3, f4, f5, f6, f7⟩ := HS0.out
    refine ⟨m - l, S0, sg, 0, 0, 0, ?_, ?_, ?_, ?_, rfl, ?_, Nat.le_refl _, ?_, ?_, ?_, ?_, rfl, ?_, ?_, ?_, Bls.refl _ _ _⟩
    · rw [hS]
    · rw [hS]; show Value.float .f64 4607182418800017408 = Value.float .f64 (raw 4607182418800017408 0); rw [raw_of_not (show isnan 4607182418800017408 = false by kernel_rfl)]
    · rw [hS]; show Value.float .f64 4607182418800017408 = Value.float .f64 (raw 4607182418800017408 0); rw [raw_of_not (show isnan 4607182418800017408 = false by kernel_rfl)]
    · rw [hS]; show Value.float .f64 0 = Value.float .f64 (raw 0 0); rw [raw_of_not (show isnan 0 = false by kernel_rfl)]
    · congr 1; omega
    · rw [hS]; exact f4
    · rw [hS]; exact f5
    · rw [hS]; exact f6
    · rw [hS]; exact f7
    · rw [hS]; exact f1
    · rw [hS]; exact f2
    · rw [hS]; exact f3
  case round =>
    obtain ⟨k, S, t17, t20, t21, t22, rfl, rfl, rfl, rfl, rfl, rfl, hk, hSd, hSe, hSz, hgS, hSw, fd, fe, fz, hB⟩ := hrel
    cases k with
    | zero =>
      have j4 : decide ((l : Int) ≤ (l : Int) + ((0 : Nat) : Int) - 1) = false := decide_eq_false (by omega)
      have HR := Lib.hid (show _ ∧ _ ∧ _ ∧ _ ∧ _ from ⟨hSw, fd, fe, fz, hB⟩)
      have hJ := HJ.out
      have hKJ := HKJ.out
      clear hSw fd fe fz hB hSd hSe hSz hgS
      go_wp2_with fail
      go_meet
      case rel => exact ⟨(S, false), t17, t22, HR.out.1.symm, rfl, rfl, rfl, HR.out.2⟩
    | succ k =>
      obtain ⟨i, hi⟩ : ∃ i, i = l + k := ⟨_, rfl⟩
      have ei : (l : Int) + ((k + 1 : Nat) : Int) - 1 = (i : Int) := by omega
      rw [ei]
      have hXr := HX.out.1.bls hB HX.out.1.lt (by simp; omega)
      have j1 : i < n := by omega
      have j2 : i + 1 < n := by omega
      have j4 : decide ((l : Int) ≤ (i : Int)) = true := decide_eq_true (by omega)
      have j4' : decide (l ≤ i) = true := decide_eq_true (by omega)
      have j5 : IntKind.i64.wrap ((i : Int) + 1) = (i : Int) + 1 := wi64n (i + 1) (by omega) (by omega)
      obtain ⟨u1, c1⟩ := fe.at (i := i) (by omega)
      have hbe := fe.lt
      have HSw := Lib.hid hSw
      have HFF := Lib.hid (show _ ∧ _ ∧ _ ∧ _ ∧ _ from ⟨fd, fe, fz, hB, hXr⟩)
      have HSl := Lib.hid (show _ ∧ _ ∧ _ ∧ _ from ⟨hSd, hSe, hSz, hk⟩)
      have HEF := Lib.hid (And.intro (show swF S i = fmul S.s (S.e.getD i 0) from rfl) (show swB S i = fmul S.c (S.e.getD i 0) from rfl))
      have HI := Lib.hid (And.intro hi ei)
      clear hSw fd fe fz hB hSd hSe hSz hk hi ei hXr
      generalize S.e.getD i 0 = ev at *
      go_upto_region 33 with ((refine wpList_flt rfl rfl rfl rfl rfl ?_; intro K hK _ _; go_frame; refine hK _ _ ?_; clear hK K))
      rename_i sf nf sb nb Kq aq
      have hdA : Below wr.heap.size wr (wr.drewN (nf + nb)) := below_drewN _ (Below.refl _ _)
      have HdA := Lib.hid hdA
      clear hdA c1 hbe
      go_wp2_with fail
      refine (RHypotF (fmul S.s ev) sf S.g t17 (fmul_lt _ _) hgS _).mono ?_
      rintro r w6 ⟨⟨sr2, rfl⟩, hb6⟩
      have hb7 : Below wr.heap.size wr w6 := below_step HdA.out HdA.out.size hb6
      have b5 := hb7.size
      have hfd6 := HFF.out.1.below hb7
      have hfe6 := HFF.out.2.1.below hb7
      have HF6 := Lib.hid (show _ ∧ _ ∧ _ ∧ _ ∧ _ from ⟨hfd6, hfe6, HFF.out.2.2.1.below hb7, HFF.out.2.2.2.1.step (HFF.out.2.2.2.1.size) (Bls.of hb7), HFF.out.2.2.2.2.below hb7⟩)
      obtain ⟨hSd, hSe, _, _⟩ := HSl.out
      obtain ⟨u2, c2⟩ := hfe6.at (i := i + 1) (by omega)
      obtain ⟨u3, c3⟩ := hfd6.at (i := i + 1) (by omega)
      obtain ⟨u4, c4⟩ := hfd6.at (i := i) (by omega)
      obtain ⟨u5, c5⟩ := hfe6.at (i := m) (by omega)
      have hbd6 := hfd6.lt
      have hbe6 := hfe6.lt
      have fzd6 := hfd6.frozen
      have fze6 := hfe6.frozen
      have hrr : swR S i = hypW (fmul S.s ev) S.g := by unfold swR; rw [HEF.out.1]
      have HRf := Lib.hid (show feq (hypW (fmul S.s ev) S.g) 0 = false → swL n rows l m (m - l) S0 = swL n rows l m k (swN n rows S i) from fun hq => by
        rw [HSw.out, swL, ← HI.out.1, hrr, hq, if_neg (by decide)])
      have HRt := Lib.hid (show feq (hypW (fmul S.s ev) S.g) 0 = true → swL n rows l m (m - l) S0 = (⟨S.d.set (i + 1) (fsub (S.d.getD (i + 1) 0) S.p), (S.e.set (i + 1) (hypW (fmul S.s ev) S.g)).set m 0, S.z, S.g, S.s, S.c, S.p⟩, true) from fun hq => by
        rw [HSw.out, swL, ← HI.out.1, hrr, hq, if_pos rfl]
        unfold swX
        rw [hrr])
      have HN := Lib.hid (show swN n rows S i = ⟨S.d.set (i + 1) (fadd (fsub (S.d.getD (i + 1) 0) S.p) (fmul (fdiv (fmul S.s ev) (hypW (fmul S.s ev) S.g)) (fadd (fmul (fsub (S.d.getD i 0) (fsub (S.d.getD (i + 1) 0) S.p)) (fdiv (fmul S.s ev) (hypW (fmul S.s ev) S.g))) (fmul (fmul 4611686018427387904 (fdiv S.g (hypW (fmul S.s ev) S.g))) (fmul S.c ev))))), S.e.set (i + 1) (hypW (fmul S.s ev) S.g), turnL S.z n i (fdiv S.g (hypW (fmul S.s ev) S.g)) (fdiv (fmul S.s ev) (hypW (fmul S.s ev) S.g)) rows, fsub (fmul (fdiv S.g (hypW (fmul S.s ev) S.g)) (fadd (fmul (fsub (S.d.getD i 0) (fsub (S.d.getD (i + 1) 0) S.p)) (fdiv (fmul S.s ev) (hypW (fmul S.s ev) S.g))) (fmul (fmul 4611686018427387904 (fdiv S.g (hypW (fmul S.s ev) S.g))) (fmul S.c ev)))) (fmul S.c ev), (fdiv (fmul S.s ev) (hypW (fmul S.s ev) S.g)), (fdiv S.g (hypW (fmul S.s ev) S.g)), (fmul (fdiv (fmul S.s ev) (hypW (fmul S.s ev) S.g)) (fadd (fmul (fsub (S.d.getD i 0) (fsub (S.d.getD (i + 1) 0) S.p)) (fdiv (fmul S.s ev) (hypW (fmul S.s ev) S.g))) (fmul (fmul 4611686018427387904 (fdiv S.g (hypW (fmul S.s ev) S.g))) (fmul S.c ev))))⟩ from by unfold swN; rw [hrr, HEF.out.1, HEF.out.2])
      clear hfd6 hfe6 hSd hSe hb6 hb7 hrr b5
      generalize hypW (fmul S.s ev) S.g = rv at *
      generalize S.d.getD (i + 1) 0 = dk at *
      generalize S.d.getD i 0 = di at *
      cases hr0 : feq rv 0
      · have HR := Lib.hid (HRf.out hr0)
        have HR0 := Lib.hid hr0
        go_upto_block 8 with ((refine wpList_flt rfl rfl rfl rfl rfl ?_; intro K hK _ _; go_frame; refine hK _ _ ?_; clear hK K))
        simp only [fmul_rawl, fmul_rawr, fadd_rawl, fadd_rawr, fsub_rawl, fsub_rawr, fdiv_rawl, fdiv_rawr]
        rename_i r1 n1 r2 n2 r3 n3 r4 n4 r5 n5 r6 n6 r7 n7 r8 n8 r9 n9 r10 n10 r11 n11 r12 n12
        obtain ⟨f1, f2, f3, hB, hXw⟩ := HF6.out
        have m1 : bd ∈ [bd, be, zb] := by simp
        have m2 : be ∈ [bd, be, zb] := by simp
        have m3 : zb ∈ [bd, be, zb] := by simp
        generalize hdv : fadd (fsub dk S.p) (fmul (fdiv (fmul S.s ev) rv) (fadd (fmul (fsub di (fsub dk S.p)) (fdiv (fmul S.s ev) rv)) (fmul (fmul 4611686018427387904 (fdiv S.g rv)) (fmul S.c ev)))) = dv at *
        generalize hnn : n1 + n2 + n3 + n4 + n5 + n6 + n7 + n8 + n9 + n10 = nn at *
        have x1 := hXw.set_other h2 (i + 1) (.float .f64 (raw rv sr2))
        have e1 := f1.other h4 (i + 1) (.float .f64 (raw rv sr2))
        have e2 := f2.set (i + 1) rv sr2
        have e3 := f3.other (Ne.symm h6) (i + 1) (.float .f64 (raw rv sr2))
        have e4 := hB.set m2 (i + 1) (.float .f64 (raw rv sr2))
        generalize w6.setCell ⟨be, i + 1, none⟩ (.float .f64 (raw rv sr2)) = wa at *
        have hda : Below wa.heap.size wa (wa.drewN nn) := below_drewN nn (Below.refl _ _)
        replace x1 := (x1.below hda).set_other h1 (i + 1) (.float .f64 (raw dv r10))
        replace e1 := (e1.below hda).set (i + 1) dv r10
        replace e2 := (e2.below hda).other (Ne.symm h4) (i + 1) (.float .f64 (raw dv r10))
        replace e3 := (e3.below hda).other (Ne.symm h5) (i + 1) (.float .f64 (raw dv r10))
        replace e4 := (e4.step e4.size (Bls.of hda)).set m1 (i + 1) (.float .f64 (raw dv r10))
        generalize (wa.drewN nn).setCell ⟨bd, i + 1, none⟩ (.float .f64 (raw dv r10)) = wb at *
        have hdb : Below wb.heap.size wb ((wb.drewN n11).drewN n12) := below_drewN _ (below_drewN _ (Below.refl _ _))
        replace x1 := x1.below hdb
        replace e1 := e1.below hdb
        replace e2 := e2.below hdb
        replace e3 := e3.below hdb
        replace e4 := e4.step e4.size (Bls.of hdb)
        generalize (wb.drewN n11).drewN n12 = wc at *
        obtain ⟨hSd, hSe, hSz, hkk⟩ := HSl.out
        have HE := Lib.hid (show _ ∧ _ ∧ _ ∧ _ from ⟨e1, e2, e3, e4⟩)
        have HX1 := Lib.hid x1
        have hMM := HX.out.2
        have HMs := Lib.hid (show S.z.length = rows * n ∧ S.z.length = M from ⟨hSz.trans hMM, hSz⟩)
        clear e1 e2 e3 e4 x1 f1 f2 f3 hB hXw hda hdb hSd hSe hSz hMM c2 c3 c4 c5 hbd6 hbe6 fzd6 fze6
        refine rows_turn_q _ _ _ _ _ _ _ _ _ _ _ _ _ _ _ _ _ _ _ _ _ _ _ _ _ _ _ _ _ _ _ _ _ _ _ _ _ _ _ _ _ _ _ _ _ _ _ _ _ _ _ _ _ _ _ _ _ _ _ _ _ _ _ _ _ _ _ _ _ _ _ _ _ _ _ _ _ _ _ _ _ _ _ _ _ _ _ _ _ _ _ _ _ _ _ _ _ _ _ _ _ _ _ _ _ _ _ _ _ _ _ _ _ _ _ _ _ _ _ _ _ _ _ _ _ _ _ _ _ _ _ _ _ _ _ _ _ _ _ _ _ _ _ _ _ _ _ _ _ _ _ _ _ _ _ _ _ _ _ _ _ _ _ _ _ _ _ _ _ _ _ _ _ _ _ _ _ _ _ _ _ _ _ _ _ _ _ _ _ _ _ _ _ _ _ _ _ _ _ _ _ _ _ _ _ _ _ _ _ _ _ _ _ _ _ _ _ _ _ _ _ _ _ _ _ _ _ _ _ _ _ _ _ _ _ _ _ _ _ _ _ _ _ _ _ _ _ _ _ _ _ _ _ _ _ _ _ _ _ _ _ _ _ _ _ _ _ _ _ _ _ _ _ _ _ _ _ _ _ _ _ _ _ _ _ _ _ _ _ _ _ _ _ _ _ _ _ _ _ _ _ _ _ _ _ X zb rows n i (fdiv S.g rv) r2 (fdiv (fmul S.s ev) rv) r1 zc M cols za S.z wc HX1.out HE.out.2.2.1 HMs.out.1 HMs.out.2 j2 h3 hr hn _ ?_
        next =>
          intro u29 u30 u31 u32 u33 u34 u35 u222 u223 u224 u225 u226 u227 u228 u229 u230 u231 u232 u233 u234 u235 u236 u237 u238 u239 u240 u241 u242 u243 u244 u245 u246 u247 u248 u249 u250 u251 u252 u253 u254 u255 u256 u257 u258 u259 u260 u261 u262 u263 u264 u265 u266 u267 u268 u269 u270 u271 u272 u273 u274 u275 u276 u277 u278 u279 u280 u281 w7 hcut
          obtain ⟨hz', hb'⟩ := hcut
          obtain ⟨e1, e2, e3, e4⟩ := HE.out
          have j8 : wrap64 ((i : Int) - 1) = (i : Int) - 1 := by unfold wrap64; omega
          have HQ := Lib.hid (show _ ∧ _ ∧ _ ∧ _ from ⟨e1.bel h5 hb', e2.bel h6 hb', hz', e4.step e4.size (Bls.ofBel hb' m3)⟩)
          clear e1 e2 e3 e4 hz' hb'
          go_wp2
          go_roundw
          case rel =>
            obtain ⟨q1, q2, q3, q4⟩ := HQ.out
            obtain ⟨hSd, hSe, hSz, hkk⟩ := HSl.out
            refine ⟨k, swN n rows S i, r12, r1, r2, r9, ?_, ?_, ?_, ?_, rfl, ?_, by omega, ?_, ?_, ?_, ?_, HR.out, ?_, ?_, ?_, q4⟩
            · rw [HN.out]
            · rw [HN.out]
            · rw [HN.out]
            · rw [HN.out]
            · have := HI.out; congr 1; omega
            · rw [(swN_len n rows S i).1]; exact hSd
            · rw [(swN_len n rows S i).2.1]; exact hSe
            · rw [(swN_len n rows S i).2.2]; exact hSz
            · rw [HN.out]; exact fsub_lt _ _
            · rw [HN.out]; exact q1
            · rw [HN.out]; exact q2
            · rw [HN.out]; exact q3
          case measure =>
            obtain ⟨hI1, hI2⟩ := HI.out
            simp [intOf]
            omega
      · have HR := Lib.hid (HRt.out hr0)
        have HR0 := Lib.hid hr0
        have hJ := HJ.out
        have hKJ := HKJ.out
        by_cases hq : i + 1 = m
        · subst hq
          go_wp2_with (first | (refine wpList_flt rfl rfl rfl rfl rfl ?_; intro K hK _ _; go_frame; refine hK _ _ ?_; clear hK K))
          rename_i su nu
          obtain ⟨f1, f2, f3, hB, _⟩ := HF6.out
          have hdr : Below (w6.setCell ⟨be, i + 1, none⟩ (.float .f64 (raw rv sr2))).heap.size (w6.setCell ⟨be, i + 1, none⟩ (.float .f64 (raw rv sr2))) ((w6.setCell ⟨be, i + 1, none⟩ (.float .f64 (raw rv sr2))).drewN nu) := below_drewN nu (Below.refl _ _)
          have m1 : bd ∈ [bd, be, zb] := by simp
          have m2 : be ∈ [bd, be, zb] := by simp
          have g1 := (((f1.other h4 (i + 1) (.float .f64 (raw rv sr2))).below hdr).set (i + 1) (fsub dk S.p) su).other h4 (i + 1) (.float .f64 0)
          have g2 := (((f2.set (i + 1) rv sr2).below hdr).other (Ne.symm h4) (i + 1) (.float .f64 (raw (fsub dk S.p) su))).set (i + 1) 0 0
          rw [raw_of_not (show isnan 0 = false by kernel_rfl)] at g2
          have g3 := (((f3.other (Ne.symm h6) (i + 1) (.float .f64 (raw rv sr2))).below hdr).other (Ne.symm h5) (i + 1) (.float .f64 (raw (fsub dk S.p) su))).other (Ne.symm h6) (i + 1) (.float .f64 0)
          have hBs := hB.set m2 (i + 1) (.float .f64 (raw rv sr2))
          have g4 := ((hBs.step hBs.size (Bls.of hdr)).set m1 (i + 1) (.float .f64 (raw (fsub dk S.p) su))).set m2 (i + 1) (.float .f64 0)
          go_meet
          case rel => exact ⟨_, t17, t22, HR.out.symm, rfl, rfl, rfl, g1, g2, g3, g4⟩
        · have hq' : ¬ m = i + 1 := fun h => hq h.symm
          go_wp2_with (first | (refine wpList_flt rfl rfl rfl rfl rfl ?_; intro K hK _ _; go_frame; refine hK _ _ ?_; clear hK K))
          rename_i su nu
          obtain ⟨f1, f2, f3, hB, _⟩ := HF6.out
          have hdr : Below (w6.setCell ⟨be, i + 1, none⟩ (.float .f64 (raw rv sr2))).heap.size (w6.setCell ⟨be, i + 1, none⟩ (.float .f64 (raw rv sr2))) ((w6.setCell ⟨be, i + 1, none⟩ (.float .f64 (raw rv sr2))).drewN nu) := below_drewN nu (Below.refl _ _)
          have m1 : bd ∈ [bd, be, zb] := by simp
          have m2 : be ∈ [bd, be, zb] := by simp
          have g1 := (((f1.other h4 (i + 1) (.float .f64 (raw rv sr2))).below hdr).set (i + 1) (fsub dk S.p) su).other h4 m (.float .f64 0)
          have g2 := (((f2.set (i + 1) rv sr2).below hdr).other (Ne.symm h4) (i + 1) (.float .f64 (raw (fsub dk S.p) su))).set m 0 0
          rw [raw_of_not (show isnan 0 = false by kernel_rfl)] at g2
          have g3 := (((f3.other (Ne.symm h6) (i + 1) (.float .f64 (raw rv sr2))).below hdr).other (Ne.symm h5) (i + 1) (.float .f64 (raw (fsub dk S.p) su))).other (Ne.symm h6) m (.float .f64 0)
          have hBs := hB.set m2 (i + 1) (.float .f64 (raw rv sr2))
          have g4 := ((hBs.step hBs.size (Bls.of hdr)).set m1 (i + 1) (.float .f64 (raw (fsub dk S.p) su))).set m2 m (.float .f64 0)
          go_meet
          case rel => exact ⟨_, t17, t22, HR.out.symm, rfl, rfl, rfl, g1, g2, g3, g4⟩
set_option maxRecDepth 1000000 in
theorem sweep_steps_q (c0 c1 c2 c3 c4 c5 c6 c7 c12 c14 c16 c18 c19 c25 c26 c27 c28 c29 c30 c31 c32 c33 c34 c35 c36 c37 c38 c39 c40 c41 c42 c43 c44 c45 c46 c47 c48 c49 c50 c51 c52 c53 c54 c55 c56 c57 c58 c59 c60 c61 c62 c63 c64 c65 c66 c67 c68 c69 c70 c71 c72 c73 c74 c75 c76 c77 c78 c79 c80 c81 c82 c83 c84 c85 c86 c87 c88 c89 c90 c91 c92 c93 c94 c95 c96 c97 c98 c99 c100 c101 c102 c103 c104 c105 c106 c107 c108 c109 c110 c111 c112 c113 c114 c115 c116 c117 c118 c119 c120 c121 c122 c123 c124 c125 c126 c127 c128 c129 c130 c131 c132 c133 c134 c135 c136 c137 c138 c139 c140 c141 c142 c143 c144 c145 c146 c147 c148 c149 c150 c151 c152 c153 c154 c155 c156 c157 c158 c159 c160 c161 c162 c163 c164 c165 c166 c167 c168 c169 c170 c171 c172 c173 c174 c175 c176 c177 c178 c179 c180 c181 c182 c183 c184 c185 c186 c187 c188 c189 c190 c191 c192 c193 c194 c195 c196 c197 c198 c199 c200 c201 c202 c203 c204 c205 c206 c207 c208 c209 c210 c211 c212 c213 c214 c215 c216 c217 c218 c219 c220 c221 c222 c223 c224 c225 c226 c227 c228 c229 c230 c231 c232 c233 c234 c235 c236 c237 c238 c239 c240 c241 c242 c243 c244 c245 c246 c247 c248 c249 c250 c251 c252 c253 c254 c255 c256 c257 c258 c259 c260 c261 c262 c263 c264 c265 c266 c267 c268 c269 c270 c271 c272 c273 c274 c275 c276 c277 c278 c279 c280 c281 c282 c283 c284 c285 c286 c287 c288 c289 c290 c291 c292 c293 c294 c295 c296 c297 c298 c299 c300 c301 c302 c303 c304 c305 c306 c307 c308 c309 c310 : Value) (X bd be zb rows n cd ce zc l m M g0 sg : Nat) (cols : Int) (za : Option Addr) (d e z : List Nat) (w : World) (hX : Box w X [.int .i64 rows, .int .i64 cols, .slice za M zc]) (hd : Flb w bd d) (he : Flb w be e) (hz : FS w za zb z) (hdl : d.length = n) (hel : e.length = n) (hzl : z.length = M) (hM : M = rows * n) (hg0 : g0 < 18446744073709551616) (hl : l < m) (hm : m < n) (hn : n ≤ 512) (hr : rows ≤ 512) (h1 : X ≠ bd) (h2 : X ≠ be) (h3 : X ≠ zb) (h4 : bd ≠ be) (h5 : bd ≠ zb) (h6 : be ≠ zb) (Q : Exit → Act → World → Prop)
    (hQ : ∀ (u17 u18 u20 u21 u22 u23 u24 u25 u26 u27 u28 u29 u30 u31 u32 u33 u34 u35 u136 u137 u138 u139 u140 u141 u142 u143 u144 u145 u146 u147 u148 u149 u150 u151 u152 u153 u154 u155 u156 u157 u158 u159 u160 u161 u162 u163 u164 u165 u166 u167 u168 u169 u170 u171 u172 u173 u174 u175 u176 u177 u178 u179 u180 u181 u182 u183 u184 u185 u186 u187 u188 u189 u190 u191 u192 u193 u194 u195 u196 u197 u198 u199 u200 u201 u202 u203 u204 u205 u206 u207 u208 u209 u210 u211 u212 u213 u214 u215 u216 u217 u218 u219 u220 u221 u222 u223 u224 u225 u226 u227 u228 u229 u230 u231 u232 u233 u234 u235 u236 u237 u238 u239 u240 u241 u242 u243 u244 u245 u246 u247 u248 u249 u250 u251 u252 u253 u254 u255 u256 u257 u258 u259 u260 u261 u262 u263 u264 u265 u266 u267 u268 u269 u270 u271 u272 u273 u274 u275 u276 u277 u278 u279 u280 u281 : Value) (w' : World), (∃ (y : SwS × Bool) (t17 t22 : Nat), y = swL n rows l m (m - l) ⟨d, e, z, g0, 4607182418800017408, 4607182418800017408, 0⟩ ∧ u17 = .float .f64 (raw y.1.g t17) ∧ u22 = .float .f64 (raw y.1.p t22) ∧ u23 = .bool y.2 ∧ Flb w' bd y.1.d ∧ Flb w' be y.1.e ∧ FS w' za zb y.1.z ∧ Bls [bd, be, zb] w.heap.size w w') → Q .normal { tmps := #[c0, c1, c2, c3, c4, c5, c6, c7, .int .i64 n, .slice (some ⟨bd, 0, none⟩) n cd, .slice (some ⟨be, 0, none⟩) n ce, .pointer (some ⟨X, 0, none⟩), c12, .int .i64 l, c14, .int .i64 m, c16, u17, u18, c19, u20, u21, u22, u23, u24, u25, u26, u27, u28, u29, u30, u31, u32, u33, u34, u35, c36, c37, c38, c39, c40, c41, c42, c43, c44, c45, c46, c47, c48, c49, c50, c51, c52, c53, c54, c55, c56, c57, c58, c59, c60, c61, c62, c63, c64, c65, c66, c67, c68, c69, c70, c71, c72, c73, c74, c75, c76, c77, c78, c79, c80, c81, c82, c83, c84, c85, c86, c87, c88, c89, c90, c91, c92, c93, c94, c95, c96, c97, c98, c99, c100, c101, c102, c103, c104, c105, c106, c107, c108, c109, c110, c111, c112, c113, c114, c115, c116, c117, c118, c119, c120, c121, c122, c123, c124, c125, c126, c127, c128, c129, c130, c131, c132, c133, c134, c135, u136, u137, u138, u139, u140, u141, u142, u143, u144, u145, u146, u147, u148, u149, u150, u151, u152, u153, u154, u155, u156, u157, u158, u159, u160, u161, u162, u163, u164, u165, u166, u167, u168, u169, u170, u171, u172, u173, u174, u175, u176, u177, u178, u179, u180, u181, u182, u183, u184, u185, u186, u187, u188, u189, u190, u191, u192, u193, u194, u195, u196, u197, u198, u199, u200, u201, u202, u203, u204, u205, u206, u207, u208, u209, u210, u211, u212, u213, u214, u215, u216, u217, u218, u219, u220, u221, u222, u223, u224, u225, u226, u227, u228, u229, u230, u231, u232, u233, u234, u235, u236, u237, u238, u239, u240, u241, u242, u243, u244, u245, u246, u247, u248, u249, u250, u251, u252, u253, u254, u255, u256, u257, u258, u259, u260, u261, u262, u263, u264, u265, u266, u267, u268, u269, u270, u271, u272, u273, u274, u275, u276, u277, u278, u279, u280, u281, c282, c283, c284, c285, c286, c287, c288, c289, c290, c291, c292, c293, c294, c295, c296, c297, c298, c299, c300, c301, c302, c303, c304, c305, c306, c307, c308, c309, c310], defers := [] } w') :
    Code.wp Try.prog ((findBlock (Try.f14.body.getD .skip) 6).getD .skip) Q { tmps := #[c0, c1, c2, c3, c4, c5, c6, c7, .int .i64 n, .slice (some ⟨bd, 0, none⟩) n cd, .slice (some ⟨be, 0, none⟩) n ce, .pointer (some ⟨X, 0, none⟩), c12, .int .i64 l, c14, .int .i64 m, c16, .float .f64 (raw g0 sg), c18, c19, .float .f64 4607182418800017408, .float .f64 4607182418800017408, .float .f64 0, .bool false, .int .i64 ((m : Int) - 1), c25, c26, c27, c28, c29, c30, c31, c32, c33, c34, c35, c36, c37, c38, c39, c40, c41, c42, c43, c44, c45, c46, c47, c48, c49, c50, c51, c52, c53, c54, c55, c56, c57, c58, c59, c60, c61, c62, c63, c64, c65, c66, c67, c68, c69, c70, c71, c72, c73, c74, c75, c76, c77, c78, c79, c80, c81, c82, c83, c84, c85, c86, c87, c88, c89, c90, c91, c92, c93, c94, c95, c96, c97, c98, c99, c100, c101, c102, c103, c104, c105, c106, c107, c108, c109, c110, c111, c112, c113, c114, c115, c116, c117, c118, c119, c120, c121, c122, c123, c124, c125, c126, c127, c128, c129, c130, c131, c132, c133, c134, c135, c136, c137, c138, c139, c140, c141, c142, c143, c144, c145, c146, c147, c148, c149, c150, c151, c152, c153, c154, c155, c156, c157, c158, c159, c160, c161, c162, c163, c164, c165, c166, c167, c168, c169, c170, c171, c172, c173, c174, c175, c176, c177, c178, c179, c180, c181, c182, c183, c184, c185, c186, c187, c188, c189, c190, c191, c192, c193, c194, c195, c196, c197, c198, c199, c200, c201, c202, c203, c204, c205, c206, c207, c208, c209, c210, c211, c212, c213, c214, c215, c216, c217, c218, c219, c220, c221, c222, c223, c224, c225, c226, c227, c228, c229, c230, c231, c232, c233, c234, c235, c236, c237, c238, c239, c240, c241, c242, c243, c244, c245, c246, c247, c248, c249, c250, c251, c252, c253, c254, c255, c256, c257, c258, c259, c260, c261, c262, c263, c264, c265, c266, c267, c268, c269, c270, c271, c272, c273, c274, c275, c276, c277, c278, c279, c280, c281, c282, c283, c284, c285, c286, c287, c288, c289, c290, c291, c292, c293, c294, c295, c296, c297, c298, c299, c300, c301, c302, c303, c304, c305, c306, c307, c308, c309, c310], defers := [] } w := by
  refine wp_mono (sweep_steps c0 c1 c2 c3 c4 c5 c6 c7 c12 c14 c16 c18 c19 c25 c26 c27 c28 c29 c30 c31 c32 c33 c34 c35 c36 c37 c38 c39 c40 c41 c42 c43 c44 c45 c46 c47 c48 c49 c50 c51 c52 c53 c54 c55 c56 c57 c58 c59 c60 c61 c62 c63 c64 c65 c66 c67 c68 c69 c70 c71 c72 c73 c74 c75 c76 c77 c78 c79 c80 c81 c82 c83 c84 c85 c86 c87 c88 c89 c90 c91 c92 c93 c94 c95 c96 c97 c98 c99 c100 c101 c102 c103 c104 c105 c106 c107 c108 c109 c110 c111 c112 c113 c114 c115 c116 c117 c118 c119 c120 c121 c122 c123 c124 c125 c126 c127 c128 c129 c130 c131 c132 c133 c134 c135 c136 c137 c138 c139 c140 c141 c142 c143 c144 c145 c146 c147 c148 c149 c150 c151 c152 c153 c154 c155 c156 c157 c158 c159 c160 c161 c162 c163 c164 c165 c166 c167 c168 c169 c170 c171 c172 c173 c174 c175 c176 c177 c178 c179 c180 c181 c182 c183 c184 c185 c186 c187 c188 c189 c190 c191 c192 c193 c194 c195 c196 c197 c198 c199 c200 c201 c202 c203 c204 c205 c206 c207 c208 c209 c210 c211 c212 c213 c214 c215 c216 c217 c218 c219 c220 c221 c222 c223 c224 c225 c226 c227 c228 c229 c230 c231 c232 c233 c234 c235 c236 c237 c238 c239 c240 c241 c242 c243 c244 c245 c246 c247 c248 c249 c250 c251 c252 c253 c254 c255 c256 c257 c258 c259 c260 c261 c262 c263 c264 c265 c266 c267 c268 c269 c270 c271 c272 c273 c274 c275 c276 c277 c278 c279 c280 c281 c282 c283 c284 c285 c286 c287 c288 c289 c290 c291 c292 c293 c294 c295 c296 c297 c298 c299 c300 c301 c302 c303 c304 c305 c306 c307 c308 c309 c310 X bd be zb rows n cd ce zc l m M g0 sg cols za d e z w hX hd he hz hdl hel hzl hM hg0 hl hm hn hr h1 h2 h3 h4 h5 h6 (fun a w => Q .normal a w) (fun a w => Q .normal a w) Q ?_ (fun _ _ h => h)) (fun e a w h => by cases e <;> exact h)
  intro a' w' h
  obtain ⟨u17, h⟩ := h
  obtain ⟨u18, h⟩ := h
  obtain ⟨u20, h⟩ := h
  obtain ⟨u21, h⟩ := h
  obtain ⟨u22, h⟩ := h
  obtain ⟨u23, h⟩ := h
  obtain ⟨u24, h⟩ := h
  obtain ⟨u25, h⟩ := h
  obtain ⟨u26, h⟩ := h
  obtain ⟨u27, h⟩ := h
  obtain ⟨u28, h⟩ := h
  obtain ⟨u29, h⟩ := h
  obtain ⟨u30, h⟩ := h
  obtain ⟨u31, h⟩ := h
  obtain ⟨u32, h⟩ := h
  obtain ⟨u33, h⟩ := h
  obtain ⟨u34, h⟩ := h
  obtain ⟨u35, h⟩ := h
  obtain ⟨u136, h⟩ := h
  obtain ⟨u137, h⟩ := h
  obtain ⟨u138, h⟩ := h
  obtain ⟨u139, h⟩ := h
  obtain ⟨u140, h⟩ := h
  obtain ⟨u141, h⟩ := h
  obtain ⟨u142, h⟩ := h
  obtain ⟨u143, h⟩ := h
  obtain ⟨u144, h⟩ := h
  obtain ⟨u145, h⟩ := h
  obtain ⟨u146, h⟩ := h
  obtain ⟨u147, h⟩ := h
  obtain ⟨u148, h⟩ := h
  obtain ⟨u149, h⟩ := h
  obtain ⟨u150, h⟩ := h
  obtain ⟨u151, h⟩ := h
  obtain ⟨u152, h⟩ := h
  obtain ⟨u153, h⟩ := h
  obtain ⟨u154, h⟩ := h
  obtain ⟨u155, h⟩ := h
  obtain ⟨u156, h⟩ := h
  obtain ⟨u157, h⟩ := h
  obtain ⟨u158, h⟩ := h
  obtain ⟨u159, h⟩ := h
  obtain ⟨u160, h⟩ := h
  obtain ⟨u161, h⟩ := h
  obtain ⟨u162, h⟩ := h
  obtain ⟨u163, h⟩ := h
  obtain ⟨u164, h⟩ := h
  obtain ⟨u165, h⟩ := h
  obtain ⟨u166, h⟩ := h
  obtain ⟨u167, h⟩ := h
  obtain ⟨u168, h⟩ := h
  obtain ⟨u169, h⟩ := h
  obtain ⟨u170, h⟩ := h
  obtain ⟨u171, h⟩ := h
  obtain ⟨u172, h⟩ := h
  obtain ⟨u173, h⟩ := h
  obtain ⟨u174, h⟩ := h
  obtain ⟨u175, h⟩ := h
  obtain ⟨u176, h⟩ := h
  obtain ⟨u177, h⟩ := h
  obtain ⟨u178, h⟩ := h
  obtain ⟨u179, h⟩ := h
  obtain ⟨u180, h⟩ := h
  obtain ⟨u181, h⟩ := h
  obtain ⟨u182, h⟩ := h
  obtain ⟨u183, h⟩ := h
  obtain ⟨u184, h⟩ := h
  obtain ⟨u185, h⟩ := h
  obtain ⟨u186, h⟩ := h
  obtain ⟨u187, h⟩ := h
  obtain ⟨u188, h⟩ := h
  obtain ⟨u189, h⟩ := h
  obtain ⟨u190, h⟩ := h
  obtain ⟨u191, h⟩ := h
  obtain ⟨u192, h⟩ := h
  obtain ⟨u193, h⟩ := h
  obtain ⟨u194, h⟩ := h
  obtain ⟨u195, h⟩ := h
  obtain ⟨u196, h⟩ := h
  obtain ⟨u197, h⟩ := h
  obtain ⟨u198, h⟩ := h
  obtain ⟨u199, h⟩ := h
  obtain ⟨u200, h⟩ := h
  obtain ⟨u201, h⟩ := h
  obtain ⟨u202, h⟩ := h
  obtain ⟨u203, h⟩ := h
  obtain ⟨u204, h⟩ := h
  obtain ⟨u205, h⟩ := h
  obtain ⟨u206, h⟩ := h
  obtain ⟨u207, h⟩ := h
  obtain ⟨u208, h⟩ := h
  obtain ⟨u209, h⟩ := h
  obtain ⟨u210, h⟩ := h
  obtain ⟨u211, h⟩ := h
  obtain ⟨u212, h⟩ := h
  obtain ⟨u213, h⟩ := h
  obtain ⟨u214, h⟩ := h
  obtain ⟨u215, h⟩ := h
  obtain ⟨u216, h⟩ := h
  obtain ⟨u217, h⟩ := h
  obtain ⟨u218, h⟩ := h
  obtain ⟨u219, h⟩ := h
  obtain ⟨u220, h⟩ := h
  obtain ⟨u221, h⟩ := h
  obtain ⟨u222, h⟩ := h
  obtain ⟨u223, h⟩ := h
  obtain ⟨u224, h⟩ := h
  obtain ⟨u225, h⟩ := h
  obtain ⟨u226, h⟩ := h
  obtain ⟨u227, h⟩ := h
  obtain ⟨u228, h⟩ := h
  obtain ⟨u229, h⟩ := h
  obtain ⟨u230, h⟩ := h
  obtain ⟨u231, h⟩ := h
  obtain ⟨u232, h⟩ := h
  obtain ⟨u233, h⟩ := h
  obtain ⟨u234, h⟩ := h
  obtain ⟨u235, h⟩ := h
  obtain ⟨u236, h⟩ := h
  obtain ⟨u237, h⟩ := h
  obtain ⟨u238, h⟩ := h
  obtain ⟨u239, h⟩ := h
  obtain ⟨u240, h⟩ := h
  obtain ⟨u241, h⟩ := h
  obtain ⟨u242, h⟩ := h
  obtain ⟨u243, h⟩ := h
  obtain ⟨u244, h⟩ := h
  obtain ⟨u245, h⟩ := h
  obtain ⟨u246, h⟩ := h
  obtain ⟨u247, h⟩ := h
  obtain ⟨u248, h⟩ := h
  obtain ⟨u249, h⟩ := h
  obtain ⟨u250, h⟩ := h
  obtain ⟨u251, h⟩ := h
  obtain ⟨u252, h⟩ := h
  obtain ⟨u253, h⟩ := h
  obtain ⟨u254, h⟩ := h
  obtain ⟨u255, h⟩ := h
  obtain ⟨u256, h⟩ := h
  obtain ⟨u257, h⟩ := h
  obtain ⟨u258, h⟩ := h
  obtain ⟨u259, h⟩ := h
  obtain ⟨u260, h⟩ := h
  obtain ⟨u261, h⟩ := h
  obtain ⟨u262, h⟩ := h
  obtain ⟨u263, h⟩ := h
  obtain ⟨u264, h⟩ := h
  obtain ⟨u265, h⟩ := h
  obtain ⟨u266, h⟩ := h
  obtain ⟨u267, h⟩ := h
  obtain ⟨u268, h⟩ := h
  obtain ⟨u269, h⟩ := h
  obtain ⟨u270, h⟩ := h
  obtain ⟨u271, h⟩ := h
  obtain ⟨u272, h⟩ := h
  obtain ⟨u273, h⟩ := h
  obtain ⟨u274, h⟩ := h
  obtain ⟨u275, h⟩ := h
  obtain ⟨u276, h⟩ := h
  obtain ⟨u277, h⟩ := h
  obtain ⟨u278, h⟩ := h
  obtain ⟨u279, h⟩ := h
  obtain ⟨u280, h⟩ := h
  obtain ⟨u281, h⟩ := h
  obtain ⟨hr, rfl⟩ := h
  exact hQ u17 u18 u20 u21 u22 u23 u24 u25 u26 u27 u28 u29 u30 u31 u32 u33 u34 u35 u136 u137 u138 u139 u140 u141 u142 u143 u144 u145 u146 u147 u148 u149 u150 u151 u152 u153 u154 u155 u156 u157 u158 u159 u160 u161 u162 u163 u164 u165 u166 u167 u168 u169 u170 u171 u172 u173 u174 u175 u176 u177 u178 u179 u180 u181 u182 u183 u184 u185 u186 u187 u188 u189 u190 u191 u192 u193 u194 u195 u196 u197 u198 u199 u200 u201 u202 u203 u204 u205 u206 u207 u208 u209 u210 u211 u212 u213 u214 u215 u216 u217 u218 u219 u220 u221 u222 u223 u224 u225 u226 u227 u228 u229 u230 u231 u232 u233 u234 u235 u236 u237 u238 u239 u240 u241 u242 u243 u244 u245 u246 u247 u248 u249 u250 u251 u252 u253 u254 u255 u256 u257 u258 u259 u260 u261 u262 u263 u264 u265 u266 u267 u268 u269 u270 u271 u272 u273 u274 u275 u276 u277 u278 u279 u280 u281 w' hr
end Go.Proofs.Ytbmnlohaidbmdaa
