import Derived.Test.YtbkjiinnojnkhaaW2
namespace Go.Proofs.Ytbkjiinnojnkhaa
open Go.RowKit
set_option maxRecDepth 1000000 in
set_option maxHeartbeats 8000000 in
theorem part3 (w0 w : World) (p q fb a n : Nat) (g : Nat → Bool) (K A M : Int) (hA : I64' A) (hM : I64' M) (ha : a ≤ 50) (hn : n ≤ 60) (ob oo len cap j : Nat) (hj : j < len)
    (o0 : w.cell? ⟨ob, oo + j * 3, none⟩ = some (.int .i64 K)) (o1 : w.cell? ⟨ob, oo + j * 3 + 1, none⟩ = some (.int .i64 A)) (o2 : w.cell? ⟨ob, oo + j * 3 + 2, none⟩ = some (.int .i64 M)) (hs : Sit w0 w p q fb a n g)
    {Q : Exit → Act → World → Prop} (c3 c4 c5 c6 c7 c10 c12 c13 c14 c15 c16 c17 c18 c19 c20 c21 c22 c23 c24 c25 c26 c27 c28 c29 c30 c31 c32 c33 c34 c35 c36 c37 c38 c39 c40 c41 c42 c43 c44 c45 c46 c47 c48 c49 c50 c51 c52 c53 c54 c55 c56 c57 c58 c59 c60 c61 c62 c63 c64 c65 c66 c67 c68 c69 c70 c71 c72 c73 c74 c75 c76 c77 c78 c79 c80 c81 c82 c83 c84 c85 c86 c87 c88 c89 c90 c91 c92 c93 c94 c95 c96 c97 c98 c99 c100 c101 c102 c103 c104 c105 c106 c107 c108 c109 c110 c111 c112 c113 c114 c115 c116 c117 c118 c119 c120 c121 c122 c123 c124 c125 c126 c127 c128 c129 c130 c131 c132 c133 c134 c135 c136 c137 c138 c139 c140 c141 c142 c143 c144 c145 c146 c147 c148 c149 c150 c151 c152 c153 c154 c155 c156 c157 c158 c159 c160 c161 c162 c163 c164 c165 c166 c167 c168 c169 c170 c171 c172 c173 c174 c175 c176 c177 c178 c179 c180 c181 c182 c183 c184 c185 c186 c187 c188 c189 c190 c191 c192 c193 c194 c195 c196 c197 c198 c199 c200 c201 c202 c203 c204 c205 c206 c207 c208 c209 c210 c211 c212 c213 c214 c215 c216 c217 c218 c219 c220 c221 c222 c223 c224 c225 c226 c227 c228 c229 c230 c231 c232 c233 c234 c235 c236 c237 c238 c239 c240 c241 c242 c243 c244 c245 c246 c247 c248 c249 c250 c251 c252 c253 c254 c255 c256 c257 c258 c259 c260 c261 c262 c263 c264 c265 c266 c267 c268 c269 c270 c271 c272 c273 c274 c275 c276 c277 c278 c279 c280 c281 c282 c283 c284 c285 c286 c287 c288 c289 c290 c291 c292 c293 c294 c295 c296 c297 c298 c299 c300 c301 c302 c303 c304 c305 : Value)
    (hQ : ∀ (g' : Nat → Bool) (w' : World) (u12 u13 u14 u15 u16 u17 u18 u19 u20 u21 u22 u23 u24 u25 u68 u69 u70 u71 u72 u73 u74 u75 u76 u77 u78 u79 u80 u81 u82 u83 u84 u85 u86 u87 u88 u89 u90 u91 u92 u93 u94 u95 u96 u97 u98 u99 u100 u101 u102 u103 u104 u105 u106 u107 u108 u109 u110 u111 u112 u113 u114 u115 u116 u117 u118 u119 u120 u121 u122 u123 u124 u125 u126 u127 u128 u129 u130 u131 u132 u133 u134 u135 u136 u137 u138 u139 u140 u141 u142 u143 u144 u145 u146 u147 u148 u149 u150 u151 u152 u153 u154 u155 u156 u157 u158 u159 u160 u161 u162 u163 u164 u165 u166 u167 u168 u169 u170 u171 u172 u173 u174 u175 u176 u177 u178 u179 u180 u181 u182 u183 u184 u185 u186 u187 u188 u189 u190 u191 u192 u193 u194 u195 u196 u197 u198 u199 u200 u201 u202 u203 u204 u205 u206 u207 u208 u209 u210 u211 u212 u213 u214 u215 u216 u217 u218 u219 u220 u221 u222 u223 u224 u225 u226 u227 u228 u229 u230 u231 u232 u233 u234 u235 u236 u237 u238 u239 u240 u241 u242 u243 u244 u245 u246 u247 u248 u249 u250 u251 u252 u253 u254 u255 u256 u257 u258 u259 u260 u261 u262 u263 u264 u265 u266 u267 u268 u269 u270 u271 u272 u273 u274 u275 u276 u277 u278 u279 u280 u281 u282 u283 u284 u285 u286 u287 u288 u289 u290 u291 u292 u293 u294 u295 u296 u297 u298 u299 u300 u301 u302 u303 u304 u305 : Value), Sit w0 w' p q fb a n g' → Q .normal ⟨#[.int .i64 (a : Int), .int .i64 (n : Int), .slice (some ⟨ob, oo, none⟩) len cap, c3, c4, c5, c6, c7, .pointer (some ⟨p, 0, none⟩), .slice (some ⟨fb, 0, none⟩) 130 130, c10, .int .i64 (j : Int), u12, u13, u14, u15, u16, u17, u18, u19, u20, u21, u22, u23, u24, u25, c26, c27, c28, c29, c30, c31, c32, c33, c34, c35, c36, c37, c38, c39, c40, c41, c42, c43, c44, c45, c46, c47, c48, c49, c50, c51, c52, c53, c54, c55, c56, c57, c58, c59, c60, c61, c62, c63, c64, c65, c66, c67, u68, u69, u70, u71, u72, u73, u74, u75, u76, u77, u78, u79, u80, u81, u82, u83, u84, u85, u86, u87, u88, u89, u90, u91, u92, u93, u94, u95, u96, u97, u98, u99, u100, u101, u102, u103, u104, u105, u106, u107, u108, u109, u110, u111, u112, u113, u114, u115, u116, u117, u118, u119, u120, u121, u122, u123, u124, u125, u126, u127, u128, u129, u130, u131, u132, u133, u134, u135, u136, u137, u138, u139, u140, u141, u142, u143, u144, u145, u146, u147, u148, u149, u150, u151, u152, u153, u154, u155, u156, u157, u158, u159, u160, u161, u162, u163, u164, u165, u166, u167, u168, u169, u170, u171, u172, u173, u174, u175, u176, u177, u178, u179, u180, u181, u182, u183, u184, u185, u186, u187, u188, u189, u190, u191, u192, u193, u194, u195, u196, u197, u198, u199, u200, u201, u202, u203, u204, u205, u206, u207, u208, u209, u210, u211, u212, u213, u214, u215, u216, u217, u218, u219, u220, u221, u222, u223, u224, u225, u226, u227, u228, u229, u230, u231, u232, u233, u234, u235, u236, u237, u238, u239, u240, u241, u242, u243, u244, u245, u246, u247, u248, u249, u250, u251, u252, u253, u254, u255, u256, u257, u258, u259, u260, u261, u262, u263, u264, u265, u266, u267, u268, u269, u270, u271, u272, u273, u274, u275, u276, u277, u278, u279, u280, u281, u282, u283, u284, u285, u286, u287, u288, u289, u290, u291, u292, u293, u294, u295, u296, u297, u298, u299, u300, u301, u302, u303, u304, u305], []⟩ w') :
    Code.wp Try.prog (blk 3) Q ⟨#[.int .i64 (a : Int), .int .i64 (n : Int), .slice (some ⟨ob, oo, none⟩) len cap, c3, c4, c5, c6, c7, .pointer (some ⟨p, 0, none⟩), .slice (some ⟨fb, 0, none⟩) 130 130, c10, .int .i64 (j : Int), c12, c13, c14, c15, c16, c17, c18, c19, c20, c21, c22, c23, c24, c25, c26, c27, c28, c29, c30, c31, c32, c33, c34, c35, c36, c37, c38, c39, c40, c41, c42, c43, c44, c45, c46, c47, c48, c49, c50, c51, c52, c53, c54, c55, c56, c57, c58, c59, c60, c61, c62, c63, c64, c65, c66, c67, c68, c69, c70, c71, c72, c73, c74, c75, c76, c77, c78, c79, c80, c81, c82, c83, c84, c85, c86, c87, c88, c89, c90, c91, c92, c93, c94, c95, c96, c97, c98, c99, c100, c101, c102, c103, c104, c105, c106, c107, c108, c109, c110, c111, c112, c113, c114, c115, c116, c117, c118, c119, c120, c121, c122, c123, c124, c125, c126, c127, c128, c129, c130, c131, c132, c133, c134, c135, c136, c137, c138, c139, c140, c141, c142, c143, c144, c145, c146, c147, c148, c149, c150, c151, c152, c153, c154, c155, c156, c157, c158, c159, c160, c161, c162, c163, c164, c165, c166, c167, c168, c169, c170, c171, c172, c173, c174, c175, c176, c177, c178, c179, c180, c181, c182, c183, c184, c185, c186, c187, c188, c189, c190, c191, c192, c193, c194, c195, c196, c197, c198, c199, c200, c201, c202, c203, c204, c205, c206, c207, c208, c209, c210, c211, c212, c213, c214, c215, c216, c217, c218, c219, c220, c221, c222, c223, c224, c225, c226, c227, c228, c229, c230, c231, c232, c233, c234, c235, c236, c237, c238, c239, c240, c241, c242, c243, c244, c245, c246, c247, c248, c249, c250, c251, c252, c253, c254, c255, c256, c257, c258, c259, c260, c261, c262, c263, c264, c265, c266, c267, c268, c269, c270, c271, c272, c273, c274, c275, c276, c277, c278, c279, c280, c281, c282, c283, c284, c285, c286, c287, c288, c289, c290, c291, c292, c293, c294, c295, c296, c297, c298, c299, c300, c301, c302, c303, c304, c305], []⟩ w := by
  have HQ := Lib.hid hQ
  have HS := Lib.hid hs
  have i4 : (j : Int) < (len : Int) := by omega
  clear hQ hs
  conv => arg 2; whnf
  go_upto_region 16 with (fail)
  have hop : Bl (w.alloc (.cells #[.int .i64 K, .int .i64 A, .int .i64 M] 28)) w.heap.size 28 [.int .i64 K, .int .i64 A, .int .i64 M] := Bl.new _ _ _
  have hs1 := HS.out.keep ((Fr.refl [] w).alloc (.cells #[.int .i64 K, .int .i64 A, .int .i64 M] 28))
  generalize w.alloc (.cells #[.int .i64 K, .int .i64 A, .int .i64 M] 28) = w5 at *
  generalize w.heap.size = od at *
  clear o0 o1 o2 HS
  apply part16 w5 od a n K A M hA ha hn hop
  intro nq
  intros
  have hs6 := hs1.keep ((Fr.refl [] w5).drewN nq)
  have ho6 := hop.drewN nq
  clear hs1 hop
  generalize w5.drewN nq = w6 at *
  have HS6 := Lib.hid hs6
  have HO6 := Lib.hid ho6
  clear hs6 ho6
  have q0 : w6.cell? ⟨od, 0, none⟩ = some (.int .i64 K) := HO6.out.cell 0
  have q1 : w6.cell? ⟨od, 1, none⟩ = some (.int .i64 A) := HO6.out.cell 1
  go_upto_block 4 with (fail)
  apply part4 w6 fb od a n g K A M hA hM (by omega) HS6.out.row HO6.out
  intros
  go_upto_block 6 with (fail)
  apply part6 w6 fb od a n g K A M hA hM (by omega) HS6.out.row HO6.out
  intros
  go_upto_block 8 with (fail)
  clear q0 q1
  by_cases k0 : K = 0
  · subst k0
    · apply armTake w0 w6 p q fb od a n g A M hM ha hn HS6.out HO6.out
      intro g' w7
      intros
      rename_i hs7
      have HS7 := Lib.hid hs7
      have hsm := hs7.fits.same (by omega)
      have hsb : Sb w7 w7.heap.size (.slice (some ⟨fb, 0, none⟩) 130 130) (rg 130 g') := by
        have := hs7.row.sv (B := w7.heap.size) 1 0 130 130 hs7.row.lt (by rw [tv_len, rg_len]; omega) (by omega) (by simp [maxLen])
        rw [List.drop_zero, List.take_of_length_le (by rw [tv_len, rg_len]; omega)] at this
        unfold Sb
        rw [rg_len]
        exact this
      have HC := Lib.hid (same_c w7 p _ (a : Int) (own_ a n g') hs7.room.r _ (rg 130 g') hsb (by rw [rg_len]; omega) hsm.1 hsm.2)
      clear hs7 hsm hsb
      go_wp2_with (fail)
      refine HC.out.mono ?_
      rintro e w8 ⟨rfl, bel⟩
      have B8 := Lib.hid bel
      clear bel
      dsimp only
      go_wp2_with (fail)
      exact HQ.out g' _ _ _ _ _ _ _ _ _ _ _ _ _ _ _ _ _ _ _ _ _ _ _ _ _ _ _ _ _ _ _ _ _ _ _ _ _ _ _ _ _ _ _ _ _ _ _ _ _ _ _ _ _ _ _ _ _ _ _ _ _ _ _ _ _ _ _ _ _ _ _ _ _ _ _ _ _ _ _ _ _ _ _ _ _ _ _ _ _ _ _ _ _ _ _ _ _ _ _ _ _ _ _ _ _ _ _ _ _ _ _ _ _ _ _ _ _ _ _ _ _ _ _ _ _ _ _ _ _ _ _ _ _ _ _ _ _ _ _ _ _ _ _ _ _ _ _ _ _ _ _ _ _ _ _ _ _ _ _ _ _ _ _ _ _ _ _ _ _ _ _ _ _ _ _ _ _ _ _ _ _ _ _ _ _ _ _ _ _ _ _ _ _ _ _ _ _ _ _ _ _ _ _ _ _ _ _ _ _ _ _ _ _ _ _ _ _ _ _ _ _ _ _ _ _ _ _ _ _ _ _ _ _ _ _ _ _ _ _ _ _ _ _ _ _ _ _ _ _ _ _ _ _ (HS7.out.keep (Fr.of_below B8.out))
  · by_cases k1 : K = 1
    · apply armUse w0 w6 p q fb od a n g K A M hA hM ha hn k1 HS6.out HO6.out
      intro g' w7
      intros
      rename_i hs7
      have HS7 := Lib.hid hs7
      have hsm := hs7.fits.same (by omega)
      have hsb : Sb w7 w7.heap.size (.slice (some ⟨fb, 0, none⟩) 130 130) (rg 130 g') := by
        have := hs7.row.sv (B := w7.heap.size) 1 0 130 130 hs7.row.lt (by rw [tv_len, rg_len]; omega) (by omega) (by simp [maxLen])
        rw [List.drop_zero, List.take_of_length_le (by rw [tv_len, rg_len]; omega)] at this
        unfold Sb
        rw [rg_len]
        exact this
      have HC := Lib.hid (same_c w7 p _ (a : Int) (own_ a n g') hs7.room.r _ (rg 130 g') hsb (by rw [rg_len]; omega) hsm.1 hsm.2)
      clear hs7 hsm hsb
      go_wp2_with (fail)
      refine HC.out.mono ?_
      rintro e w8 ⟨rfl, bel⟩
      have B8 := Lib.hid bel
      clear bel
      dsimp only
      go_wp2_with (fail)
      exact HQ.out g' _ _ _ _ _ _ _ _ _ _ _ _ _ _ _ _ _ _ _ _ _ _ _ _ _ _ _ _ _ _ _ _ _ _ _ _ _ _ _ _ _ _ _ _ _ _ _ _ _ _ _ _ _ _ _ _ _ _ _ _ _ _ _ _ _ _ _ _ _ _ _ _ _ _ _ _ _ _ _ _ _ _ _ _ _ _ _ _ _ _ _ _ _ _ _ _ _ _ _ _ _ _ _ _ _ _ _ _ _ _ _ _ _ _ _ _ _ _ _ _ _ _ _ _ _ _ _ _ _ _ _ _ _ _ _ _ _ _ _ _ _ _ _ _ _ _ _ _ _ _ _ _ _ _ _ _ _ _ _ _ _ _ _ _ _ _ _ _ _ _ _ _ _ _ _ _ _ _ _ _ _ _ _ _ _ _ _ _ _ _ _ _ _ _ _ _ _ _ _ _ _ _ _ _ _ _ _ _ _ _ _ _ _ _ _ _ _ _ _ _ _ _ _ _ _ _ _ _ _ _ _ _ _ _ _ _ _ _ _ _ _ _ _ _ _ _ _ _ _ _ _ _ _ (HS7.out.keep (Fr.of_below B8.out))
    · apply armGive w0 w6 p q fb od a n g K A M hA hM ha hn k0 k1 HS6.out HO6.out
      intro g' w7
      intros
      rename_i hs7
      have HS7 := Lib.hid hs7
      have hsm := hs7.fits.same (by omega)
      have hsb : Sb w7 w7.heap.size (.slice (some ⟨fb, 0, none⟩) 130 130) (rg 130 g') := by
        have := hs7.row.sv (B := w7.heap.size) 1 0 130 130 hs7.row.lt (by rw [tv_len, rg_len]; omega) (by omega) (by simp [maxLen])
        rw [List.drop_zero, List.take_of_length_le (by rw [tv_len, rg_len]; omega)] at this
        unfold Sb
        rw [rg_len]
        exact this
      have HC := Lib.hid (same_c w7 p _ (a : Int) (own_ a n g') hs7.room.r _ (rg 130 g') hsb (by rw [rg_len]; omega) hsm.1 hsm.2)
      clear hs7 hsm hsb
      go_wp2_with (fail)
      refine HC.out.mono ?_
      rintro e w8 ⟨rfl, bel⟩
      have B8 := Lib.hid bel
      clear bel
      dsimp only
      go_wp2_with (fail)
      exact HQ.out g' _ _ _ _ _ _ _ _ _ _ _ _ _ _ _ _ _ _ _ _ _ _ _ _ _ _ _ _ _ _ _ _ _ _ _ _ _ _ _ _ _ _ _ _ _ _ _ _ _ _ _ _ _ _ _ _ _ _ _ _ _ _ _ _ _ _ _ _ _ _ _ _ _ _ _ _ _ _ _ _ _ _ _ _ _ _ _ _ _ _ _ _ _ _ _ _ _ _ _ _ _ _ _ _ _ _ _ _ _ _ _ _ _ _ _ _ _ _ _ _ _ _ _ _ _ _ _ _ _ _ _ _ _ _ _ _ _ _ _ _ _ _ _ _ _ _ _ _ _ _ _ _ _ _ _ _ _ _ _ _ _ _ _ _ _ _ _ _ _ _ _ _ _ _ _ _ _ _ _ _ _ _ _ _ _ _ _ _ _ _ _ _ _ _ _ _ _ _ _ _ _ _ _ _ _ _ _ _ _ _ _ _ _ _ _ _ _ _ _ _ _ _ _ _ _ _ _ _ _ _ _ _ _ _ _ _ _ _ _ _ _ _ _ _ _ _ _ _ _ _ _ _ _ (HS7.out.keep (Fr.of_below B8.out))
end Go.Proofs.Ytbkjiinnojnkhaa
