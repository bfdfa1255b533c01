import Derived.Test.YtbkjiinnojnkhaaW1
namespace Go.Proofs.Ytbkjiinnojnkhaa
open Go.RowKit
set_option maxRecDepth 1000000 in
set_option maxHeartbeats 8000000 in
theorem armTake (w0 w : World) (p q fb od a n : Nat) (g : Nat → Bool) (A M : Int) (hM : I64' M) (ha : a ≤ 50) (hn : n ≤ 60) (hs : Sit w0 w p q fb a n g) (ho : Bl w od 28 [.int .i64 0, .int .i64 A, .int .i64 M])
    {Q : Exit → Act → World → Prop} (c2 c3 c4 c5 c6 c7 c10 c11 c13 c14 c15 c16 c17 c18 c19 c20 c21 c22 c23 c24 c25 c26 c27 c28 c29 c30 c31 c32 c33 c34 c35 c36 c37 c38 c39 c40 c41 c42 c43 c44 c45 c46 c47 c48 c49 c50 c51 c52 c53 c54 c55 c56 c57 c58 c59 c60 c61 c62 c63 c64 c65 c66 c67 c68 c69 c70 c71 c72 c73 c74 c75 c76 c77 c78 c79 c80 c81 c82 c83 c84 c85 c86 c87 c88 c89 c90 c91 c92 c93 c94 c95 c96 c97 c98 c99 c100 c101 c102 c103 c104 c105 c106 c107 c108 c109 c110 c111 c112 c113 c114 c115 c116 c117 c118 c119 c120 c121 c122 c123 c124 c125 c126 c127 c128 c129 c130 c131 c132 c133 c134 c135 c136 c137 c138 c139 c140 c141 c142 c143 c144 c145 c146 c147 c148 c149 c151 c152 c153 c154 c155 c156 c157 c158 c159 c160 c161 c162 c163 c164 c165 c166 c167 c168 c169 c170 c171 c172 c173 c174 c175 c176 c177 c178 c179 c180 c181 c182 c183 c184 c185 c186 c187 c188 c189 c190 c191 c192 c193 c194 c195 c196 c197 c198 c199 c200 c201 c202 c203 c204 c205 c206 c207 c208 c209 c210 c211 c212 c213 c214 c215 c216 c217 c218 c219 c220 c221 c222 c223 c224 c225 c226 c227 c228 c229 c230 c231 c232 c233 c234 c235 c236 c237 c238 c239 c240 c241 c242 c243 c244 c245 c246 c247 c248 c249 c250 c251 c252 c253 c254 c255 c256 c257 c258 c259 c260 c261 c262 c263 c264 c265 c266 c267 c268 c269 c270 c271 c272 c273 c274 c275 c276 c277 c278 c279 c280 c281 c282 c283 c284 c285 c286 c287 c288 c289 c290 c291 c292 c293 c294 c295 c296 c297 c298 c299 c300 c301 c302 c303 c304 c305 : Value)
    (hQ : ∀ (g' : Nat → Bool) (w' : World) (u17 u18 u19 u20 u21 u22 u23 u24 u25 u151 u152 u153 u154 u155 u156 u157 u158 u159 u160 u161 u162 u163 u164 u165 u166 u167 u168 u169 u170 u171 u172 u173 u174 u175 u176 u177 u178 u179 u180 u181 u182 u183 u184 u185 u186 u187 u188 u189 u190 u191 u192 u193 u194 u195 u196 u197 u198 u199 u200 u201 u202 u203 u204 u205 u206 u207 u208 u209 u210 u211 u212 u213 u214 u215 u216 u217 u218 u219 u220 u221 u222 u223 u224 u225 u226 u227 u228 u229 u230 u231 u232 u233 u234 u235 u236 u237 u238 u239 u240 u241 u242 u243 u244 u245 u246 u247 u248 u249 u250 u251 u252 u253 u254 u255 u256 u257 u258 u259 u260 u261 u262 u263 u264 u265 u266 u267 u268 u269 u270 u271 u272 u273 u274 u275 u276 u277 u278 u279 u280 u281 u282 u283 u284 u285 u286 u287 u288 u289 u290 u291 u292 u293 u294 u295 u296 u297 u298 u299 u300 u301 : Value), Sit w0 w' p q fb a n g' → Q .normal ⟨#[.int .i64 (a : Int), .int .i64 (n : Int), c2, c3, c4, c5, c6, c7, .pointer (some ⟨p, 0, none⟩), .slice (some ⟨fb, 0, none⟩) 130 130, c10, c11, .pointer (some ⟨od, 0, none⟩), c13, c14, c15, c16, u17, u18, u19, u20, u21, u22, u23, u24, u25, c26, c27, c28, c29, c30, c31, c32, c33, c34, c35, c36, c37, c38, c39, c40, c41, c42, c43, c44, c45, c46, c47, c48, c49, c50, c51, c52, c53, c54, c55, c56, c57, c58, c59, c60, c61, c62, c63, c64, c65, c66, c67, c68, c69, c70, c71, c72, c73, c74, c75, c76, c77, c78, c79, c80, c81, c82, c83, c84, c85, c86, c87, c88, c89, c90, c91, c92, c93, c94, c95, c96, c97, c98, c99, c100, c101, c102, c103, c104, c105, c106, c107, c108, c109, c110, c111, c112, c113, c114, c115, c116, c117, c118, c119, c120, c121, c122, c123, c124, c125, c126, c127, c128, c129, c130, c131, c132, c133, c134, c135, c136, c137, c138, c139, c140, c141, c142, c143, c144, c145, c146, c147, c148, c149, .int .i64 0, u151, u152, u153, u154, u155, u156, u157, u158, u159, u160, u161, u162, u163, u164, u165, u166, u167, u168, u169, u170, u171, u172, u173, u174, u175, u176, u177, u178, u179, u180, u181, u182, u183, u184, u185, u186, u187, u188, u189, u190, u191, u192, u193, u194, u195, u196, u197, u198, u199, u200, u201, u202, u203, u204, u205, u206, u207, u208, u209, u210, u211, u212, u213, u214, u215, u216, u217, u218, u219, u220, u221, u222, u223, u224, u225, u226, u227, u228, u229, u230, u231, u232, u233, u234, u235, u236, u237, u238, u239, u240, u241, u242, u243, u244, u245, u246, u247, u248, u249, u250, u251, u252, u253, u254, u255, u256, u257, u258, u259, u260, u261, u262, u263, u264, u265, u266, u267, u268, u269, u270, u271, u272, u273, u274, u275, u276, u277, u278, u279, u280, u281, u282, u283, u284, u285, u286, u287, u288, u289, u290, u291, u292, u293, u294, u295, u296, u297, u298, u299, u300, u301, c302, c303, c304, c305], []⟩ w') :
    Code.wp Try.prog (blk 8) Q ⟨#[.int .i64 (a : Int), .int .i64 (n : Int), c2, c3, c4, c5, c6, c7, .pointer (some ⟨p, 0, none⟩), .slice (some ⟨fb, 0, none⟩) 130 130, c10, c11, .pointer (some ⟨od, 0, none⟩), c13, c14, c15, c16, c17, c18, c19, c20, c21, c22, c23, c24, c25, c26, c27, c28, c29, c30, c31, c32, c33, c34, c35, c36, c37, c38, c39, c40, c41, c42, c43, c44, c45, c46, c47, c48, c49, c50, c51, c52, c53, c54, c55, c56, c57, c58, c59, c60, c61, c62, c63, c64, c65, c66, c67, c68, c69, c70, c71, c72, c73, c74, c75, c76, c77, c78, c79, c80, c81, c82, c83, c84, c85, c86, c87, c88, c89, c90, c91, c92, c93, c94, c95, c96, c97, c98, c99, c100, c101, c102, c103, c104, c105, c106, c107, c108, c109, c110, c111, c112, c113, c114, c115, c116, c117, c118, c119, c120, c121, c122, c123, c124, c125, c126, c127, c128, c129, c130, c131, c132, c133, c134, c135, c136, c137, c138, c139, c140, c141, c142, c143, c144, c145, c146, c147, c148, c149, .int .i64 0, c151, c152, c153, c154, c155, c156, c157, c158, c159, c160, c161, c162, c163, c164, c165, c166, c167, c168, c169, c170, c171, c172, c173, c174, c175, c176, c177, c178, c179, c180, c181, c182, c183, c184, c185, c186, c187, c188, c189, c190, c191, c192, c193, c194, c195, c196, c197, c198, c199, c200, c201, c202, c203, c204, c205, c206, c207, c208, c209, c210, c211, c212, c213, c214, c215, c216, c217, c218, c219, c220, c221, c222, c223, c224, c225, c226, c227, c228, c229, c230, c231, c232, c233, c234, c235, c236, c237, c238, c239, c240, c241, c242, c243, c244, c245, c246, c247, c248, c249, c250, c251, c252, c253, c254, c255, c256, c257, c258, c259, c260, c261, c262, c263, c264, c265, c266, c267, c268, c269, c270, c271, c272, c273, c274, c275, c276, c277, c278, c279, c280, c281, c282, c283, c284, c285, c286, c287, c288, c289, c290, c291, c292, c293, c294, c295, c296, c297, c298, c299, c300, c301, c302, c303, c304, c305], []⟩ w := by
  have q2 : w.cell? ⟨od, 2, none⟩ = some (.int .i64 M) := ho.cell 2
  have HQ := Lib.hid hQ
  have HS := Lib.hid hs
  have HO := Lib.hid ho
  have hc := take_c w p q n [] (a : Int) (own_ a n g) hs.room M hM
  have hoq : od ≠ q := ho.ne hs.room.row (by decide)
  clear hQ hs ho
  conv => arg 2; whnf
  go_upto_block 11 with (fail)
  apply part11 w fb od a n g 0 A M hM HS.out.fits ha hn HS.out.row HO.out
  intro W
  intros
  rename_i hF
  rcases hF with ⟨hno, rfl⟩ | ⟨s, v, m, hsome, hs1, rfl, rfl, hm1, hav, hwin⟩
  · unfold TakePost at hc
    rw [hno] at hc
    have HC := Lib.hid hc
    clear hc hno
    go_wp2_with (fail)
    refine HC.out.mono ?_
    rintro e w1 ⟨rfl, hr, f1⟩
    have HS1 := Lib.hid (HS.out.nofill hr f1)
    clear hr f1 q2
    go_upto_region 45 with (fail)
    have hb2 := Bl.new w1 30 [.int .i64 0, .int .i64 0]
    have hs2 := HS1.out.keep ((Fr.refl [] w1).alloc (.cells #[.int .i64 0, .int .i64 0] 30))
    have HB2 := Lib.hid hb2
    have HS2 := Lib.hid hs2
    clear hb2 hs2
    have c0 : (w1.alloc (.cells #[.int .i64 0, .int .i64 0] 30)).cell? ⟨w1.heap.size, 0, none⟩ = some (.int .i64 0) := HB2.out.cell 0
    have c1 : (w1.alloc (.cells #[.int .i64 0, .int .i64 0] 30)).cell? ⟨w1.heap.size, 1, none⟩ = some (.int .i64 0) := HB2.out.cell 1
    generalize w1.alloc (.cells #[.int .i64 0, .int .i64 0] 30) = w2 at *
    go_upto_block 15 with (fail)
    apply takeFillN w2 fb od
    intros
    go_wp2_with (fail)
    exact HQ.out g _ _ _ _ _ _ _ _ _ _ _ _ _ _ _ _ _ _ _ _ _ _ _ _ _ _ _ _ _ _ _ _ _ _ _ _ _ _ _ _ _ _ _ _ _ _ _ _ _ _ _ _ _ _ _ _ _ _ _ _ _ _ _ _ _ _ _ _ _ _ _ _ _ _ _ _ _ _ _ _ _ _ _ _ _ _ _ _ _ _ _ _ _ _ _ _ _ _ _ _ _ _ _ _ _ _ _ _ _ _ _ _ _ _ _ _ _ _ _ _ _ _ _ _ _ _ _ _ _ _ _ _ _ _ _ _ _ _ _ _ _ _ _ _ _ _ _ _ _ _ _ _ _ _ _ _ _ _ _ _ _ HS2.out
  · unfold TakePost at hc
    rw [hsome] at hc
    obtain ⟨hset, hvm⟩ := set_win HS.out.fits v m hm1 hav hwin
    simp only [hs1] at hc
    rw [hset] at hc
    have HC := Lib.hid hc
    clear hc hsome hs1 hset
    have d0 : decide (0 ≤ (v : Int)) = true := by simp
    go_wp2_with (fail)
    refine HC.out.mono ?_
    rintro e w1 ⟨rfl, hr, f1⟩
    have HR := Lib.hid hr
    have F1 := Lib.hid f1
    have hrow := HS.out.row.fr f1 (by simpa using HS.out.ne.symm)
    have ho1 := HO.out.fr f1 (by simpa using hoq)
    have HROW := Lib.hid hrow
    have HO1 := Lib.hid ho1
    clear hr f1 q2 hrow ho1
    go_upto_region 45 with (fail)
    have hb2 := Bl.new w1 30 [.int .i64 (v : Int), .int .i64 (m : Int)]
    have HB2 := Lib.hid hb2
    have F2 := Lib.hid ((Fr.refl [] w1).alloc (.cells #[.int .i64 (v : Int), .int .i64 (m : Int)] 30))
    clear hb2
    have c0 : (w1.alloc (.cells #[.int .i64 (v : Int), .int .i64 (m : Int)] 30)).cell? ⟨w1.heap.size, 0, none⟩ = some (.int .i64 (v : Int)) := HB2.out.cell 0
    have c1 : (w1.alloc (.cells #[.int .i64 (v : Int), .int .i64 (m : Int)] 30)).cell? ⟨w1.heap.size, 1, none⟩ = some (.int .i64 (m : Int)) := HB2.out.cell 1
    generalize w1.alloc (.cells #[.int .i64 (v : Int), .int .i64 (m : Int)] 30) = w2 at *
    have HO2 := Lib.hid (HO1.out.fr F2.out (by simp))
    have c2 : w2.cell? ⟨od, 2, none⟩ = some (.int .i64 (m : Int)) := HO2.out.cell 2
    go_upto_block 15 with (fail)
    apply takeFillY w2 fb od v m g 0 A (by omega) (HROW.out.fr F2.out (by simp)) HO2.out
    intro w3
    intros
    rename_i hb3 f3
    have HB3 := Lib.hid hb3
    have F3 := Lib.hid f3
    clear hb3 f3
    go_wp2_with (fail)
    exact HQ.out _ _ _ _ _ _ _ _ _ _ _ _ _ _ _ _ _ _ _ _ _ _ _ _ _ _ _ _ _ _ _ _ _ _ _ _ _ _ _ _ _ _ _ _ _ _ _ _ _ _ _ _ _ _ _ _ _ _ _ _ _ _ _ _ _ _ _ _ _ _ _ _ _ _ _ _ _ _ _ _ _ _ _ _ _ _ _ _ _ _ _ _ _ _ _ _ _ _ _ _ _ _ _ _ _ _ _ _ _ _ _ _ _ _ _ _ _ _ _ _ _ _ _ _ _ _ _ _ _ _ _ _ _ _ _ _ _ _ _ _ _ _ _ _ _ _ _ _ _ _ _ _ _ _ _ _ _ _ _ _ _ _ (HS.out.fill v m false (by omega) (by omega) (HR.out.fr F2.out (by simp) (by simp)) (F1.out.trans (F2.out.mono (by simp))) HB3.out F3.out)
end Go.Proofs.Ytbkjiinnojnkhaa
