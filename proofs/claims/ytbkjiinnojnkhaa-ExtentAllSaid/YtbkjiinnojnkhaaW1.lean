import Derived.Test.YtbkjiinnojnkhaaZ9
import Derived.Deep.CutBlock
namespace Go.Proofs.Ytbkjiinnojnkhaa
open Go.RowKit
/-- What stands in memory in a round. -/
structure Sit (w wx : World) (p q fb a n : Nat) (g : Nat → Bool) : Prop where
  room : RoomAt wx p q n [] (a : Int) (own_ a n g)
  row : Bl wx fb 4 (tv (rg 130 g))
  bel : Below w.heap.size w wx
  fits : Fits a n g
  ne : q ≠ fb
  lo : w.heap.size ≤ q ∧ w.heap.size ≤ fb
theorem Sit.keep {w wx wy : World} {p q fb a n : Nat} {g : Nat → Bool} (h : Sit w wx p q fb a n g) (f : Fr [] wx wy) : Sit w wy p q fb a n g :=
  ⟨h.room.fr f (by simp) (by simp), h.row.fr f (by simp), h.bel.trans (f.nil.mono h.bel.size), h.fits, h.ne, h.lo⟩
/-- The room and the law's own row are filled alike. -/
theorem Sit.fill {w wx wy wz : World} {p q fb a n : Nat} {g : Nat → Bool} (h : Sit w wx p q fb a n g) (v m : Nat) (c : Bool) (h1 : a ≤ v) (h2 : v + m ≤ a + n) (hr : RoomAt wy p q n [] (a : Int) (own_ a n (put g v m c))) (f1 : Fr [q] wx wy) (hb : Bl wz fb 4 (tv (rg 130 (put g v m c)))) (f2 : Fr [fb] wy wz) : Sit w wz p q fb a n (put g v m c) := by
  have hpf : p ≠ fb := hr.head.ne (h.row.fr f1 (by simpa using h.ne.symm)) (by decide)
  refine ⟨hr.fr f2 (by simpa using hpf) (by simpa using h.ne), hb, (h.bel.trans (f1.below (B := w.heap.size) h.bel.size (by simp; exact h.lo.1))).trans (f2.below (B := w.heap.size) ?_ (by simp; exact h.lo.2)), h.fits.put h1 h2 c, h.ne, h.lo⟩
  exact Nat.le_trans h.bel.size f1.size
theorem Sit.nofill {w wx wy : World} {p q fb a n : Nat} {g : Nat → Bool} (h : Sit w wx p q fb a n g) (hr : RoomAt wy p q n [] (a : Int) (own_ a n g)) (f1 : Fr [q] wx wy) : Sit w wy p q fb a n g :=
  ⟨hr, h.row.fr f1 (by simpa using h.ne.symm), h.bel.trans (f1.below (B := w.heap.size) h.bel.size (by simp; exact h.lo.1)), h.fits, h.ne, h.lo⟩

set_option maxRecDepth 1000000 in
set_option maxHeartbeats 8000000 in
theorem armGive (w0 w : World) (p q fb od a n : Nat) (g : Nat → Bool) (K A M : Int) (hA : I64' A) (hM : I64' M) (ha : a ≤ 50) (hn : n ≤ 60) (hK0 : K ≠ 0) (hK1 : K ≠ 1) (hs : Sit w0 w p q fb a n g) (ho : Bl w od 28 [.int .i64 K, .int .i64 A, .int .i64 M])
    {Q : Exit → Act → World → Prop} (c2 c3 c4 c5 c6 c7 c10 c11 c15 c16 c17 c18 c19 c20 c21 c22 c23 c24 c25 c26 c27 c28 c29 c30 c31 c32 c33 c34 c35 c36 c37 c38 c39 c40 c41 c42 c43 c44 c45 c46 c47 c48 c49 c50 c51 c52 c53 c54 c55 c56 c57 c58 c59 c60 c61 c62 c63 c64 c65 c66 c67 c68 c69 c70 c71 c72 c73 c74 c75 c76 c77 c78 c79 c80 c81 c82 c83 c84 c85 c86 c87 c88 c89 c90 c91 c92 c93 c94 c95 c96 c97 c98 c99 c100 c101 c102 c103 c104 c105 c106 c107 c108 c109 c110 c111 c112 c113 c114 c115 c116 c117 c118 c119 c120 c121 c122 c123 c124 c125 c126 c127 c128 c129 c130 c131 c132 c133 c134 c135 c136 c137 c138 c139 c140 c141 c142 c143 c144 c145 c146 c147 c148 c149 c151 c152 c153 c154 c155 c156 c157 c158 c159 c160 c161 c162 c163 c164 c165 c166 c167 c168 c169 c170 c171 c172 c173 c174 c175 c176 c177 c178 c179 c180 c181 c182 c183 c184 c185 c186 c187 c188 c189 c190 c191 c192 c193 c194 c195 c196 c197 c198 c199 c200 c201 c202 c203 c204 c205 c206 c207 c208 c209 c210 c211 c212 c213 c214 c215 c216 c217 c218 c219 c220 c221 c222 c223 c224 c225 c226 c227 c228 c229 c230 c231 c232 c233 c234 c235 c236 c237 c238 c239 c240 c241 c242 c243 c244 c245 c246 c247 c248 c249 c250 c251 c252 c253 c254 c255 c256 c257 c258 c259 c260 c261 c262 c263 c264 c265 c266 c267 c268 c269 c270 c271 c272 c273 c274 c275 c276 c277 c278 c279 c280 c281 c282 c283 c284 c285 c286 c287 c288 c289 c290 c291 c292 c293 c294 c295 c296 c297 c298 c299 c300 c301 c302 c303 c304 c305 : Value)
    (hQ : ∀ (g' : Nat → Bool) (w' : World) (u17 u18 u19 u20 u21 u22 u23 u24 u25 u151 u152 u153 u154 u155 u156 u157 u158 u159 u160 u161 u162 u163 u164 u165 u166 u167 u168 u169 u170 u171 u172 u173 u174 u175 u176 u177 u178 u179 u180 u181 u182 u183 u184 u185 u186 u187 u188 u189 u190 u191 u192 u193 u194 u195 u196 u197 u198 u199 u200 u201 u202 u203 u204 u205 u206 u207 u208 u209 u210 u211 u212 u213 u214 u215 u216 u217 u218 u219 u220 u221 u222 u223 u224 u225 u226 u227 u228 u229 u230 u231 u232 u233 u234 u235 u236 u237 u238 u239 u240 u241 u242 u243 u244 u245 u246 u247 u248 u249 u250 u251 u252 u253 u254 u255 u256 u257 u258 u259 u260 u261 u262 u263 u264 u265 u266 u267 u268 u269 u270 u271 u272 u273 u274 u275 u276 u277 u278 u279 u280 u281 u282 u283 u284 u285 u286 u287 u288 u289 u290 u291 u292 u293 u294 u295 u296 u297 u298 u299 u300 u301 : Value), Sit w0 w' p q fb a n g' → Q .normal ⟨#[.int .i64 (a : Int), .int .i64 (n : Int), c2, c3, c4, c5, c6, c7, .pointer (some ⟨p, 0, none⟩), .slice (some ⟨fb, 0, none⟩) 130 130, c10, c11, .pointer (some ⟨od, 0, none⟩), .bool (isAll (a : Int) (own_ a n g) A M true), .bool (isAll (a : Int) (own_ a n g) A M false), c15, c16, u17, u18, u19, u20, u21, u22, u23, u24, u25, c26, c27, c28, c29, c30, c31, c32, c33, c34, c35, c36, c37, c38, c39, c40, c41, c42, c43, c44, c45, c46, c47, c48, c49, c50, c51, c52, c53, c54, c55, c56, c57, c58, c59, c60, c61, c62, c63, c64, c65, c66, c67, c68, c69, c70, c71, c72, c73, c74, c75, c76, c77, c78, c79, c80, c81, c82, c83, c84, c85, c86, c87, c88, c89, c90, c91, c92, c93, c94, c95, c96, c97, c98, c99, c100, c101, c102, c103, c104, c105, c106, c107, c108, c109, c110, c111, c112, c113, c114, c115, c116, c117, c118, c119, c120, c121, c122, c123, c124, c125, c126, c127, c128, c129, c130, c131, c132, c133, c134, c135, c136, c137, c138, c139, c140, c141, c142, c143, c144, c145, c146, c147, c148, c149, .int .i64 K, u151, u152, u153, u154, u155, u156, u157, u158, u159, u160, u161, u162, u163, u164, u165, u166, u167, u168, u169, u170, u171, u172, u173, u174, u175, u176, u177, u178, u179, u180, u181, u182, u183, u184, u185, u186, u187, u188, u189, u190, u191, u192, u193, u194, u195, u196, u197, u198, u199, u200, u201, u202, u203, u204, u205, u206, u207, u208, u209, u210, u211, u212, u213, u214, u215, u216, u217, u218, u219, u220, u221, u222, u223, u224, u225, u226, u227, u228, u229, u230, u231, u232, u233, u234, u235, u236, u237, u238, u239, u240, u241, u242, u243, u244, u245, u246, u247, u248, u249, u250, u251, u252, u253, u254, u255, u256, u257, u258, u259, u260, u261, u262, u263, u264, u265, u266, u267, u268, u269, u270, u271, u272, u273, u274, u275, u276, u277, u278, u279, u280, u281, u282, u283, u284, u285, u286, u287, u288, u289, u290, u291, u292, u293, u294, u295, u296, u297, u298, u299, u300, u301, c302, c303, c304, c305], []⟩ w') :
    Code.wp Try.prog (blk 8) Q ⟨#[.int .i64 (a : Int), .int .i64 (n : Int), c2, c3, c4, c5, c6, c7, .pointer (some ⟨p, 0, none⟩), .slice (some ⟨fb, 0, none⟩) 130 130, c10, c11, .pointer (some ⟨od, 0, none⟩), .bool (isAll (a : Int) (own_ a n g) A M true), .bool (isAll (a : Int) (own_ a n g) A M false), c15, c16, c17, c18, c19, c20, c21, c22, c23, c24, c25, c26, c27, c28, c29, c30, c31, c32, c33, c34, c35, c36, c37, c38, c39, c40, c41, c42, c43, c44, c45, c46, c47, c48, c49, c50, c51, c52, c53, c54, c55, c56, c57, c58, c59, c60, c61, c62, c63, c64, c65, c66, c67, c68, c69, c70, c71, c72, c73, c74, c75, c76, c77, c78, c79, c80, c81, c82, c83, c84, c85, c86, c87, c88, c89, c90, c91, c92, c93, c94, c95, c96, c97, c98, c99, c100, c101, c102, c103, c104, c105, c106, c107, c108, c109, c110, c111, c112, c113, c114, c115, c116, c117, c118, c119, c120, c121, c122, c123, c124, c125, c126, c127, c128, c129, c130, c131, c132, c133, c134, c135, c136, c137, c138, c139, c140, c141, c142, c143, c144, c145, c146, c147, c148, c149, .int .i64 K, c151, c152, c153, c154, c155, c156, c157, c158, c159, c160, c161, c162, c163, c164, c165, c166, c167, c168, c169, c170, c171, c172, c173, c174, c175, c176, c177, c178, c179, c180, c181, c182, c183, c184, c185, c186, c187, c188, c189, c190, c191, c192, c193, c194, c195, c196, c197, c198, c199, c200, c201, c202, c203, c204, c205, c206, c207, c208, c209, c210, c211, c212, c213, c214, c215, c216, c217, c218, c219, c220, c221, c222, c223, c224, c225, c226, c227, c228, c229, c230, c231, c232, c233, c234, c235, c236, c237, c238, c239, c240, c241, c242, c243, c244, c245, c246, c247, c248, c249, c250, c251, c252, c253, c254, c255, c256, c257, c258, c259, c260, c261, c262, c263, c264, c265, c266, c267, c268, c269, c270, c271, c272, c273, c274, c275, c276, c277, c278, c279, c280, c281, c282, c283, c284, c285, c286, c287, c288, c289, c290, c291, c292, c293, c294, c295, c296, c297, c298, c299, c300, c301, c302, c303, c304, c305], []⟩ w := by
  have q1 : w.cell? ⟨od, 1, none⟩ = some (.int .i64 A) := ho.cell 1
  have q2 : w.cell? ⟨od, 2, none⟩ = some (.int .i64 M) := ho.cell 2
  have HQ := Lib.hid hQ
  have HS := Lib.hid hs
  have HO := Lib.hid ho
  have HC := Lib.hid (give_c w p q n [] (a : Int) (own_ a n g) hs.room A M hA hM)
  have hoq : od ≠ q := ho.ne hs.room.row (by decide)
  have d0 : (K == 0) = false := by simpa using hK0
  have d1 : (K == 1) = false := by simpa using hK1
  clear hQ hs ho
  obtain ⟨b, hb⟩ : ∃ b, Hid (isAll (a : Int) (own_ a n g) A M false = b) := ⟨_, rfl⟩
  rw [hb.out] at HC HQ
  rw [hb.out]
  obtain ⟨b2, hb2⟩ : ∃ b, Hid (isAll (a : Int) (own_ a n g) A M true = b) := ⟨_, rfl⟩
  rw [hb2.out] at HQ
  rw [hb2.out]
  conv => arg 2; whnf
  go_wp2_with (fail)
  refine HC.out.mono ?_
  rintro e w1 ⟨rfl, hr, f1⟩
  have HR := Lib.hid hr
  have F1 := Lib.hid f1
  have HO1 := Lib.hid (HO.out.fr f1 (by simpa using hoq))
  clear hr f1 q1 q2
  cases b
  · go_upto_block 9 with (fail)
    apply giveFillN w1 fb od
    intros
    go_wp2_with (fail)
    have e := set_no (c := true) hb.out
    have hr := HR.out
    rw [e] at hr
    exact HQ.out g _ _ _ _ _ _ _ _ _ _ _ _ _ _ _ _ _ _ _ _ _ _ _ _ _ _ _ _ _ _ _ _ _ _ _ _ _ _ _ _ _ _ _ _ _ _ _ _ _ _ _ _ _ _ _ _ _ _ _ _ _ _ _ _ _ _ _ _ _ _ _ _ _ _ _ _ _ _ _ _ _ _ _ _ _ _ _ _ _ _ _ _ _ _ _ _ _ _ _ _ _ _ _ _ _ _ _ _ _ _ _ _ _ _ _ _ _ _ _ _ _ _ _ _ _ _ _ _ _ _ _ _ _ _ _ _ _ _ _ _ _ _ _ _ _ _ _ _ _ _ _ _ _ _ _ _ _ _ _ _ _ (HS.out.nofill hr F1.out)
  · have hin := (inside_iff a n A M).1 ((all_iff a n g A M _).1 hb.out).1
    have e := set_yes (c := true) hb.out
    have hr := HR.out
    rw [e] at hr
    have HR2 := Lib.hid hr
    obtain ⟨v, rfl⟩ : ∃ v : Nat, A = (v : Int) := ⟨A.toNat, by omega⟩
    obtain ⟨m, rfl⟩ : ∃ m : Nat, M = (m : Int) := ⟨M.toNat, by omega⟩
    rw [Int.toNat_natCast, Int.toNat_natCast] at HR2
    clear e hr
    go_upto_block 9 with (fail)
    apply giveFillY w1 fb od v m g _ (by omega) (HS.out.row.fr F1.out (by simpa using HS.out.ne.symm)) HO1.out
    intro w2
    intros
    rename_i hb2 f2
    have HB2 := Lib.hid hb2
    have F2 := Lib.hid f2
    clear hb2 f2
    go_wp2_with (fail)
    exact HQ.out _ _ _ _ _ _ _ _ _ _ _ _ _ _ _ _ _ _ _ _ _ _ _ _ _ _ _ _ _ _ _ _ _ _ _ _ _ _ _ _ _ _ _ _ _ _ _ _ _ _ _ _ _ _ _ _ _ _ _ _ _ _ _ _ _ _ _ _ _ _ _ _ _ _ _ _ _ _ _ _ _ _ _ _ _ _ _ _ _ _ _ _ _ _ _ _ _ _ _ _ _ _ _ _ _ _ _ _ _ _ _ _ _ _ _ _ _ _ _ _ _ _ _ _ _ _ _ _ _ _ _ _ _ _ _ _ _ _ _ _ _ _ _ _ _ _ _ _ _ _ _ _ _ _ _ _ _ _ _ _ _ _ (HS.out.fill v m true (by omega) (by omega) HR2.out F1.out HB2.out F2.out)

set_option maxRecDepth 1000000 in
set_option maxHeartbeats 8000000 in
theorem armUse (w0 w : World) (p q fb od a n : Nat) (g : Nat → Bool) (K A M : Int) (hA : I64' A) (hM : I64' M) (ha : a ≤ 50) (hn : n ≤ 60) (hK1 : K = 1) (hs : Sit w0 w p q fb a n g) (ho : Bl w od 28 [.int .i64 K, .int .i64 A, .int .i64 M])
    {Q : Exit → Act → World → Prop} (c2 c3 c4 c5 c6 c7 c10 c11 c15 c16 c17 c18 c19 c20 c21 c22 c23 c24 c25 c26 c27 c28 c29 c30 c31 c32 c33 c34 c35 c36 c37 c38 c39 c40 c41 c42 c43 c44 c45 c46 c47 c48 c49 c50 c51 c52 c53 c54 c55 c56 c57 c58 c59 c60 c61 c62 c63 c64 c65 c66 c67 c68 c69 c70 c71 c72 c73 c74 c75 c76 c77 c78 c79 c80 c81 c82 c83 c84 c85 c86 c87 c88 c89 c90 c91 c92 c93 c94 c95 c96 c97 c98 c99 c100 c101 c102 c103 c104 c105 c106 c107 c108 c109 c110 c111 c112 c113 c114 c115 c116 c117 c118 c119 c120 c121 c122 c123 c124 c125 c126 c127 c128 c129 c130 c131 c132 c133 c134 c135 c136 c137 c138 c139 c140 c141 c142 c143 c144 c145 c146 c147 c148 c149 c151 c152 c153 c154 c155 c156 c157 c158 c159 c160 c161 c162 c163 c164 c165 c166 c167 c168 c169 c170 c171 c172 c173 c174 c175 c176 c177 c178 c179 c180 c181 c182 c183 c184 c185 c186 c187 c188 c189 c190 c191 c192 c193 c194 c195 c196 c197 c198 c199 c200 c201 c202 c203 c204 c205 c206 c207 c208 c209 c210 c211 c212 c213 c214 c215 c216 c217 c218 c219 c220 c221 c222 c223 c224 c225 c226 c227 c228 c229 c230 c231 c232 c233 c234 c235 c236 c237 c238 c239 c240 c241 c242 c243 c244 c245 c246 c247 c248 c249 c250 c251 c252 c253 c254 c255 c256 c257 c258 c259 c260 c261 c262 c263 c264 c265 c266 c267 c268 c269 c270 c271 c272 c273 c274 c275 c276 c277 c278 c279 c280 c281 c282 c283 c284 c285 c286 c287 c288 c289 c290 c291 c292 c293 c294 c295 c296 c297 c298 c299 c300 c301 c302 c303 c304 c305 : Value)
    (hQ : ∀ (g' : Nat → Bool) (w' : World) (u17 u18 u19 u20 u21 u22 u23 u24 u25 u151 u152 u153 u154 u155 u156 u157 u158 u159 u160 u161 u162 u163 u164 u165 u166 u167 u168 u169 u170 u171 u172 u173 u174 u175 u176 u177 u178 u179 u180 u181 u182 u183 u184 u185 u186 u187 u188 u189 u190 u191 u192 u193 u194 u195 u196 u197 u198 u199 u200 u201 u202 u203 u204 u205 u206 u207 u208 u209 u210 u211 u212 u213 u214 u215 u216 u217 u218 u219 u220 u221 u222 u223 u224 u225 u226 u227 u228 u229 u230 u231 u232 u233 u234 u235 u236 u237 u238 u239 u240 u241 u242 u243 u244 u245 u246 u247 u248 u249 u250 u251 u252 u253 u254 u255 u256 u257 u258 u259 u260 u261 u262 u263 u264 u265 u266 u267 u268 u269 u270 u271 u272 u273 u274 u275 u276 u277 u278 u279 u280 u281 u282 u283 u284 u285 u286 u287 u288 u289 u290 u291 u292 u293 u294 u295 u296 u297 u298 u299 u300 u301 : Value), Sit w0 w' p q fb a n g' → Q .normal ⟨#[.int .i64 (a : Int), .int .i64 (n : Int), c2, c3, c4, c5, c6, c7, .pointer (some ⟨p, 0, none⟩), .slice (some ⟨fb, 0, none⟩) 130 130, c10, c11, .pointer (some ⟨od, 0, none⟩), .bool (isAll (a : Int) (own_ a n g) A M true), .bool (isAll (a : Int) (own_ a n g) A M false), c15, c16, u17, u18, u19, u20, u21, u22, u23, u24, u25, c26, c27, c28, c29, c30, c31, c32, c33, c34, c35, c36, c37, c38, c39, c40, c41, c42, c43, c44, c45, c46, c47, c48, c49, c50, c51, c52, c53, c54, c55, c56, c57, c58, c59, c60, c61, c62, c63, c64, c65, c66, c67, c68, c69, c70, c71, c72, c73, c74, c75, c76, c77, c78, c79, c80, c81, c82, c83, c84, c85, c86, c87, c88, c89, c90, c91, c92, c93, c94, c95, c96, c97, c98, c99, c100, c101, c102, c103, c104, c105, c106, c107, c108, c109, c110, c111, c112, c113, c114, c115, c116, c117, c118, c119, c120, c121, c122, c123, c124, c125, c126, c127, c128, c129, c130, c131, c132, c133, c134, c135, c136, c137, c138, c139, c140, c141, c142, c143, c144, c145, c146, c147, c148, c149, .int .i64 K, u151, u152, u153, u154, u155, u156, u157, u158, u159, u160, u161, u162, u163, u164, u165, u166, u167, u168, u169, u170, u171, u172, u173, u174, u175, u176, u177, u178, u179, u180, u181, u182, u183, u184, u185, u186, u187, u188, u189, u190, u191, u192, u193, u194, u195, u196, u197, u198, u199, u200, u201, u202, u203, u204, u205, u206, u207, u208, u209, u210, u211, u212, u213, u214, u215, u216, u217, u218, u219, u220, u221, u222, u223, u224, u225, u226, u227, u228, u229, u230, u231, u232, u233, u234, u235, u236, u237, u238, u239, u240, u241, u242, u243, u244, u245, u246, u247, u248, u249, u250, u251, u252, u253, u254, u255, u256, u257, u258, u259, u260, u261, u262, u263, u264, u265, u266, u267, u268, u269, u270, u271, u272, u273, u274, u275, u276, u277, u278, u279, u280, u281, u282, u283, u284, u285, u286, u287, u288, u289, u290, u291, u292, u293, u294, u295, u296, u297, u298, u299, u300, u301, c302, c303, c304, c305], []⟩ w') :
    Code.wp Try.prog (blk 8) Q ⟨#[.int .i64 (a : Int), .int .i64 (n : Int), c2, c3, c4, c5, c6, c7, .pointer (some ⟨p, 0, none⟩), .slice (some ⟨fb, 0, none⟩) 130 130, c10, c11, .pointer (some ⟨od, 0, none⟩), .bool (isAll (a : Int) (own_ a n g) A M true), .bool (isAll (a : Int) (own_ a n g) A M false), c15, c16, c17, c18, c19, c20, c21, c22, c23, c24, c25, c26, c27, c28, c29, c30, c31, c32, c33, c34, c35, c36, c37, c38, c39, c40, c41, c42, c43, c44, c45, c46, c47, c48, c49, c50, c51, c52, c53, c54, c55, c56, c57, c58, c59, c60, c61, c62, c63, c64, c65, c66, c67, c68, c69, c70, c71, c72, c73, c74, c75, c76, c77, c78, c79, c80, c81, c82, c83, c84, c85, c86, c87, c88, c89, c90, c91, c92, c93, c94, c95, c96, c97, c98, c99, c100, c101, c102, c103, c104, c105, c106, c107, c108, c109, c110, c111, c112, c113, c114, c115, c116, c117, c118, c119, c120, c121, c122, c123, c124, c125, c126, c127, c128, c129, c130, c131, c132, c133, c134, c135, c136, c137, c138, c139, c140, c141, c142, c143, c144, c145, c146, c147, c148, c149, .int .i64 K, c151, c152, c153, c154, c155, c156, c157, c158, c159, c160, c161, c162, c163, c164, c165, c166, c167, c168, c169, c170, c171, c172, c173, c174, c175, c176, c177, c178, c179, c180, c181, c182, c183, c184, c185, c186, c187, c188, c189, c190, c191, c192, c193, c194, c195, c196, c197, c198, c199, c200, c201, c202, c203, c204, c205, c206, c207, c208, c209, c210, c211, c212, c213, c214, c215, c216, c217, c218, c219, c220, c221, c222, c223, c224, c225, c226, c227, c228, c229, c230, c231, c232, c233, c234, c235, c236, c237, c238, c239, c240, c241, c242, c243, c244, c245, c246, c247, c248, c249, c250, c251, c252, c253, c254, c255, c256, c257, c258, c259, c260, c261, c262, c263, c264, c265, c266, c267, c268, c269, c270, c271, c272, c273, c274, c275, c276, c277, c278, c279, c280, c281, c282, c283, c284, c285, c286, c287, c288, c289, c290, c291, c292, c293, c294, c295, c296, c297, c298, c299, c300, c301, c302, c303, c304, c305], []⟩ w := by
  have q1 : w.cell? ⟨od, 1, none⟩ = some (.int .i64 A) := ho.cell 1
  have q2 : w.cell? ⟨od, 2, none⟩ = some (.int .i64 M) := ho.cell 2
  have HQ := Lib.hid hQ
  have HS := Lib.hid hs
  have HO := Lib.hid ho
  have HC := Lib.hid (use_c w p q n [] (a : Int) (own_ a n g) hs.room A M hA hM)
  have hoq : od ≠ q := ho.ne hs.room.row (by decide)
  subst hK1
  clear hQ hs ho
  obtain ⟨b, hb⟩ : ∃ b, Hid (isAll (a : Int) (own_ a n g) A M true = b) := ⟨_, rfl⟩
  rw [hb.out] at HC HQ
  rw [hb.out]
  obtain ⟨b2, hb2⟩ : ∃ b, Hid (isAll (a : Int) (own_ a n g) A M false = b) := ⟨_, rfl⟩
  rw [hb2.out] at HQ
  rw [hb2.out]
  conv => arg 2; whnf
  go_wp2_with (fail)
  refine HC.out.mono ?_
  rintro e w1 ⟨rfl, hr, f1⟩
  have HR := Lib.hid hr
  have F1 := Lib.hid f1
  have HO1 := Lib.hid (HO.out.fr f1 (by simpa using hoq))
  clear hr f1 q1 q2
  cases b
  · go_upto_block 17 with (fail)
    apply useFillN w1 fb od
    intros
    go_wp2_with (fail)
    have e := set_no (c := false) hb.out
    have hr := HR.out
    rw [e] at hr
    exact HQ.out g _ _ _ _ _ _ _ _ _ _ _ _ _ _ _ _ _ _ _ _ _ _ _ _ _ _ _ _ _ _ _ _ _ _ _ _ _ _ _ _ _ _ _ _ _ _ _ _ _ _ _ _ _ _ _ _ _ _ _ _ _ _ _ _ _ _ _ _ _ _ _ _ _ _ _ _ _ _ _ _ _ _ _ _ _ _ _ _ _ _ _ _ _ _ _ _ _ _ _ _ _ _ _ _ _ _ _ _ _ _ _ _ _ _ _ _ _ _ _ _ _ _ _ _ _ _ _ _ _ _ _ _ _ _ _ _ _ _ _ _ _ _ _ _ _ _ _ _ _ _ _ _ _ _ _ _ _ _ _ _ _ (HS.out.nofill hr F1.out)
  · have hin := (inside_iff a n A M).1 ((all_iff a n g A M _).1 hb.out).1
    have e := set_yes (c := false) hb.out
    have hr := HR.out
    rw [e] at hr
    have HR2 := Lib.hid hr
    obtain ⟨v, rfl⟩ : ∃ v : Nat, A = (v : Int) := ⟨A.toNat, by omega⟩
    obtain ⟨m, rfl⟩ : ∃ m : Nat, M = (m : Int) := ⟨M.toNat, by omega⟩
    rw [Int.toNat_natCast, Int.toNat_natCast] at HR2
    clear e hr
    go_upto_block 17 with (fail)
    apply useFillY w1 fb od v m g _ (by omega) (HS.out.row.fr F1.out (by simpa using HS.out.ne.symm)) HO1.out
    intro w2
    intros
    rename_i hb2 f2
    have HB2 := Lib.hid hb2
    have F2 := Lib.hid f2
    clear hb2 f2
    go_wp2_with (fail)
    exact HQ.out _ _ _ _ _ _ _ _ _ _ _ _ _ _ _ _ _ _ _ _ _ _ _ _ _ _ _ _ _ _ _ _ _ _ _ _ _ _ _ _ _ _ _ _ _ _ _ _ _ _ _ _ _ _ _ _ _ _ _ _ _ _ _ _ _ _ _ _ _ _ _ _ _ _ _ _ _ _ _ _ _ _ _ _ _ _ _ _ _ _ _ _ _ _ _ _ _ _ _ _ _ _ _ _ _ _ _ _ _ _ _ _ _ _ _ _ _ _ _ _ _ _ _ _ _ _ _ _ _ _ _ _ _ _ _ _ _ _ _ _ _ _ _ _ _ _ _ _ _ _ _ _ _ _ _ _ _ _ _ _ _ _ (HS.out.fill v m false (by omega) (by omega) HR2.out F1.out HB2.out F2.out)

end Go.Proofs.Ytbkjiinnojnkhaa
