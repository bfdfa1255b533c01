import Derived.Test.YtbkjiinnojnkhaaZ7
import Derived.Deep.CutBlock
namespace Go.Proofs.Ytbkjiinnojnkhaa
open Go.RowKit

set_option maxRecDepth 1000000 in
set_option maxHeartbeats 4000000 in
theorem part13 (w : World) (fb od x m : Nat) (g : Nat → Bool) (K A : Int) (hn : x + m ≤ 110) (hb : Bl w fb 4 (tv (rg 130 g))) (ho : Bl w od 28 [.int .i64 K, .int .i64 A, .int .i64 (m : Int)])
    {Q : Exit → Act → World → Prop} (c0 c1 c2 c3 c4 c5 c6 c7 c8 c10 c11 c13 c14 c15 c16 c17 c21 c22 c23 c24 c25 c26 c27 c28 c29 c30 c31 c32 c33 c34 c35 c36 c37 c38 c39 c40 c41 c42 c43 c44 c45 c46 c47 c48 c49 c50 c51 c52 c53 c54 c55 c56 c57 c58 c59 c60 c61 c62 c63 c64 c65 c66 c67 c68 c69 c70 c71 c72 c73 c74 c75 c76 c77 c78 c79 c80 c81 c82 c83 c84 c85 c86 c87 c88 c89 c90 c91 c92 c93 c94 c95 c96 c97 c98 c99 c100 c101 c102 c103 c104 c105 c106 c107 c108 c109 c110 c111 c112 c113 c114 c115 c116 c117 c118 c119 c120 c121 c122 c123 c124 c125 c126 c127 c128 c129 c130 c131 c132 c133 c134 c135 c136 c137 c138 c139 c140 c141 c142 c143 c144 c145 c146 c147 c148 c149 c150 c151 c152 c153 c154 c155 c156 c157 c158 c159 c160 c161 c162 c163 c164 c165 c166 c167 c168 c169 c170 c171 c172 c173 c174 c175 c176 c177 c178 c179 c180 c181 c182 c183 c184 c185 c186 c187 c188 c189 c190 c191 c192 c193 c194 c195 c196 c197 c198 c199 c200 c201 c202 c203 c204 c205 c206 c207 c208 c209 c210 c211 c212 c213 c214 c215 c216 c217 c218 c219 c220 c221 c222 c223 c224 c225 c226 c227 c228 c229 c230 c231 c232 c233 c234 c235 c236 c237 c238 c239 c240 c241 c242 c243 c244 c245 c246 c247 c248 c249 c250 c251 c252 c253 c254 c255 c256 c257 c258 c259 c260 c261 c262 c263 c264 c265 c266 c267 c268 c269 c270 c271 c272 c273 c274 c275 c276 c277 c278 c279 c280 c281 c282 c283 c284 c285 c286 c287 c288 c289 c290 c291 c292 c293 c294 c295 c296 c297 c298 c299 c300 c301 c302 c303 c304 c305 : Value)
    (hQ : ∀ (b : Bool) (u20 u204 u205 u206 u207 u208 u209 u210 u211 u212 u213 u214 u215 u216 u217 u218 : Value), (b = true ↔ WinG g x m) → Q .normal ⟨#[c0, c1, c2, c3, c4, c5, c6, c7, c8, .slice (some ⟨fb, 0, none⟩) 130 130, c10, c11, .pointer (some ⟨od, 0, none⟩), c13, c14, c15, c16, c17, .int .i64 (x : Int), .bool b, u20, c21, c22, c23, c24, c25, c26, c27, c28, c29, c30, c31, c32, c33, c34, c35, c36, c37, c38, c39, c40, c41, c42, c43, c44, c45, c46, c47, c48, c49, c50, c51, c52, c53, c54, c55, c56, c57, c58, c59, c60, c61, c62, c63, c64, c65, c66, c67, c68, c69, c70, c71, c72, c73, c74, c75, c76, c77, c78, c79, c80, c81, c82, c83, c84, c85, c86, c87, c88, c89, c90, c91, c92, c93, c94, c95, c96, c97, c98, c99, c100, c101, c102, c103, c104, c105, c106, c107, c108, c109, c110, c111, c112, c113, c114, c115, c116, c117, c118, c119, c120, c121, c122, c123, c124, c125, c126, c127, c128, c129, c130, c131, c132, c133, c134, c135, c136, c137, c138, c139, c140, c141, c142, c143, c144, c145, c146, c147, c148, c149, c150, c151, c152, c153, c154, c155, c156, c157, c158, c159, c160, c161, c162, c163, c164, c165, c166, c167, c168, c169, c170, c171, c172, c173, c174, c175, c176, c177, c178, c179, c180, c181, c182, c183, c184, c185, c186, c187, c188, c189, c190, c191, c192, c193, c194, c195, c196, c197, c198, c199, c200, c201, c202, c203, u204, u205, u206, u207, u208, u209, u210, u211, u212, u213, u214, u215, u216, u217, u218, c219, c220, c221, c222, c223, c224, c225, c226, c227, c228, c229, c230, c231, c232, c233, c234, c235, c236, c237, c238, c239, c240, c241, c242, c243, c244, c245, c246, c247, c248, c249, c250, c251, c252, c253, c254, c255, c256, c257, c258, c259, c260, c261, c262, c263, c264, c265, c266, c267, c268, c269, c270, c271, c272, c273, c274, c275, c276, c277, c278, c279, c280, c281, c282, c283, c284, c285, c286, c287, c288, c289, c290, c291, c292, c293, c294, c295, c296, c297, c298, c299, c300, c301, c302, c303, c304, c305], []⟩ w) :
    Code.wp Try.prog (blk 13) Q ⟨#[c0, c1, c2, c3, c4, c5, c6, c7, c8, .slice (some ⟨fb, 0, none⟩) 130 130, c10, c11, .pointer (some ⟨od, 0, none⟩), c13, c14, c15, c16, c17, .int .i64 (x : Int), .bool true, .int .i64 (x : Int), c21, c22, c23, c24, c25, c26, c27, c28, c29, c30, c31, c32, c33, c34, c35, c36, c37, c38, c39, c40, c41, c42, c43, c44, c45, c46, c47, c48, c49, c50, c51, c52, c53, c54, c55, c56, c57, c58, c59, c60, c61, c62, c63, c64, c65, c66, c67, c68, c69, c70, c71, c72, c73, c74, c75, c76, c77, c78, c79, c80, c81, c82, c83, c84, c85, c86, c87, c88, c89, c90, c91, c92, c93, c94, c95, c96, c97, c98, c99, c100, c101, c102, c103, c104, c105, c106, c107, c108, c109, c110, c111, c112, c113, c114, c115, c116, c117, c118, c119, c120, c121, c122, c123, c124, c125, c126, c127, c128, c129, c130, c131, c132, c133, c134, c135, c136, c137, c138, c139, c140, c141, c142, c143, c144, c145, c146, c147, c148, c149, c150, c151, c152, c153, c154, c155, c156, c157, c158, c159, c160, c161, c162, c163, c164, c165, c166, c167, c168, c169, c170, c171, c172, c173, c174, c175, c176, c177, c178, c179, c180, c181, c182, c183, c184, c185, c186, c187, c188, c189, c190, c191, c192, c193, c194, c195, c196, c197, c198, c199, c200, c201, c202, c203, c204, c205, c206, c207, c208, c209, c210, c211, c212, c213, c214, c215, c216, c217, c218, c219, c220, c221, c222, c223, c224, c225, c226, c227, c228, c229, c230, c231, c232, c233, c234, c235, c236, c237, c238, c239, c240, c241, c242, c243, c244, c245, c246, c247, c248, c249, c250, c251, c252, c253, c254, c255, c256, c257, c258, c259, c260, c261, c262, c263, c264, c265, c266, c267, c268, c269, c270, c271, c272, c273, c274, c275, c276, c277, c278, c279, c280, c281, c282, c283, c284, c285, c286, c287, c288, c289, c290, c291, c292, c293, c294, c295, c296, c297, c298, c299, c300, c301, c302, c303, c304, c305], []⟩ w := by
  have q2 : w.cell? ⟨od, 2, none⟩ = some (.int .i64 (m : Int)) := ho.cell 2
  have HB := Lib.hid hb
  have HQ := Lib.hid hQ
  clear hb ho hQ
  conv => arg 2; whnf
  have we := add_in (a := (x : Int)) (b := (m : Int)) (by omega)
  go_wp2_with (fail)
  go_loopg [19, 20] m (fun qq s19 i wr => ∃ (j : Nat) (b : Bool), j + qq = m ∧ s19 = .bool b ∧ i = .int .i64 ((x : Int) + (j : Int)) ∧ w = wr ∧ (b = true ↔ ∀ t, x ≤ t → t < x + j → g t = true))
  case atStart => exact ⟨0, true, by omega, rfl, by simp, rfl, ⟨fun _ t h1 h2 => by omega, fun _ => rfl⟩⟩
  case round =>
    obtain ⟨j, b, hj, rfl, rfl, rfl, hbb⟩ := hrel
    have HBB := Lib.hid hbb
    clear hbb
    by_cases hlt : j < m
    · have i4 : (x : Int) + (j : Int) < (x : Int) + (m : Int) := by omega
      have c5 := load_free HB.out (x + j) (by omega)
      have hstep : ((b && g (x + j)) = true) ↔ ∀ t, x ≤ t → t < x + (j + 1) → g t = true := by
        rw [Bool.and_eq_true, HBB.out]
        constructor
        · rintro ⟨h1, h2⟩ t h3 h4
          rcases (by omega : t < x + j ∨ t = x + j) with h5 | rfl
          · exact h1 t h3 h5
          · exact h2
        · intro h
          exact ⟨fun t h3 h4 => h t h3 (by omega), h _ (by omega) (by omega)⟩
      have HSTEP := Lib.hid hstep
      clear hstep
      generalize g (x + j) = b' at *
      cases b
      all_goals
        go_wp2_with (fail)
        go_roundg (m - (j + 1))
        case measure => omega
        case rel => exact ⟨j + 1, _, by omega, rfl, by go_num, rfl, by simpa using HSTEP.out⟩
    · have e : j = m := by omega
      subst e
      go_wp2_with (fail)
      exact HQ.out b _ _ _ _ _ _ _ _ _ _ _ _ _ _ _ _ HBB.out

def Found (a n : Nat) (g : Nat → Bool) (M W : Int) : Prop :=
  (taken (a : Int) (own_ a n g) M = none ∧ W = -1) ∨ ∃ (s : Int × Int) (v m : Nat), taken (a : Int) (own_ a n g) M = some s ∧ s.1 = W ∧ W = (v : Int) ∧ M = (m : Int) ∧ 1 ≤ m ∧ a ≤ v ∧ WinG g v m
theorem win_hi {a n : Nat} {g : Nat → Bool} (hg : Fits a n g) {v m : Nat} (hm : 1 ≤ m) (h : WinG g v m) : v + m ≤ a + n := by
  rcases Nat.lt_or_ge (a + n) (v + m) with h1 | h1
  · have h2 := h (v + m - 1) (by omega) (by omega)
    rw [hg.hi _ (by omega)] at h2
    cases h2
  · exact h1

set_option maxRecDepth 1000000 in
set_option maxHeartbeats 8000000 in
theorem part11 (w : World) (fb od a n : Nat) (g : Nat → Bool) (K A M : Int) (hM : I64' M) (hg : Fits a n g) (ha : a ≤ 50) (hn : n ≤ 60) (hb : Bl w fb 4 (tv (rg 130 g))) (ho : Bl w od 28 [.int .i64 K, .int .i64 A, .int .i64 M])
    {Q : Exit → Act → World → Prop} (c2 c3 c4 c5 c6 c7 c8 c10 c11 c13 c14 c15 c16 c19 c20 c21 c22 c23 c24 c25 c26 c27 c28 c29 c30 c31 c32 c33 c34 c35 c36 c37 c38 c39 c40 c41 c42 c43 c44 c45 c46 c47 c48 c49 c50 c51 c52 c53 c54 c55 c56 c57 c58 c59 c60 c61 c62 c63 c64 c65 c66 c67 c68 c69 c70 c71 c72 c73 c74 c75 c76 c77 c78 c79 c80 c81 c82 c83 c84 c85 c86 c87 c88 c89 c90 c91 c92 c93 c94 c95 c96 c97 c98 c99 c100 c101 c102 c103 c104 c105 c106 c107 c108 c109 c110 c111 c112 c113 c114 c115 c116 c117 c118 c119 c120 c121 c122 c123 c124 c125 c126 c127 c128 c129 c130 c131 c132 c133 c134 c135 c136 c137 c138 c139 c140 c141 c142 c143 c144 c145 c146 c147 c148 c149 c150 c151 c152 c153 c154 c155 c156 c157 c158 c159 c160 c161 c162 c163 c164 c165 c166 c167 c168 c169 c170 c171 c172 c173 c174 c175 c176 c177 c178 c179 c180 c181 c182 c183 c184 c185 c186 c187 c188 c189 c190 c191 c192 c193 c194 c195 c196 c197 c198 c199 c200 c201 c202 c203 c204 c205 c206 c207 c208 c209 c210 c211 c212 c213 c214 c215 c216 c217 c218 c219 c220 c221 c222 c223 c224 c225 c226 c227 c228 c229 c230 c231 c232 c233 c234 c235 c236 c237 c238 c239 c240 c241 c242 c243 c244 c245 c246 c247 c248 c249 c250 c251 c252 c253 c254 c255 c256 c257 c258 c259 c260 c261 c262 c263 c264 c265 c266 c267 c268 c269 c270 c271 c272 c273 c274 c275 c276 c277 c278 c279 c280 c281 c282 c283 c284 c285 c286 c287 c288 c289 c290 c291 c292 c293 c294 c295 c296 c297 c298 c299 c300 c301 c302 c303 c304 c305 : Value)
    (hQ : ∀ (W : Int) (u18 u19 u20 u178 u179 u180 u181 u182 u183 u184 u185 u186 u187 u188 u189 u190 u191 u192 u193 u194 u195 u196 u197 u198 u199 u200 u201 u202 u203 u204 u205 u206 u207 u208 u209 u210 u211 u212 u213 u214 u215 u216 u217 u218 u219 u220 : Value), Found a n g M W → Q .normal ⟨#[.int .i64 (a : Int), .int .i64 (n : Int), c2, c3, c4, c5, c6, c7, c8, .slice (some ⟨fb, 0, none⟩) 130 130, c10, c11, .pointer (some ⟨od, 0, none⟩), c13, c14, c15, c16, .int .i64 W, u18, u19, u20, c21, c22, c23, c24, c25, c26, c27, c28, c29, c30, c31, c32, c33, c34, c35, c36, c37, c38, c39, c40, c41, c42, c43, c44, c45, c46, c47, c48, c49, c50, c51, c52, c53, c54, c55, c56, c57, c58, c59, c60, c61, c62, c63, c64, c65, c66, c67, c68, c69, c70, c71, c72, c73, c74, c75, c76, c77, c78, c79, c80, c81, c82, c83, c84, c85, c86, c87, c88, c89, c90, c91, c92, c93, c94, c95, c96, c97, c98, c99, c100, c101, c102, c103, c104, c105, c106, c107, c108, c109, c110, c111, c112, c113, c114, c115, c116, c117, c118, c119, c120, c121, c122, c123, c124, c125, c126, c127, c128, c129, c130, c131, c132, c133, c134, c135, c136, c137, c138, c139, c140, c141, c142, c143, c144, c145, c146, c147, c148, c149, c150, c151, c152, c153, c154, c155, c156, c157, c158, c159, c160, c161, c162, c163, c164, c165, c166, c167, c168, c169, c170, c171, c172, c173, c174, c175, c176, c177, u178, u179, u180, u181, u182, u183, u184, u185, u186, u187, u188, u189, u190, u191, u192, u193, u194, u195, u196, u197, u198, u199, u200, u201, u202, u203, u204, u205, u206, u207, u208, u209, u210, u211, u212, u213, u214, u215, u216, u217, u218, u219, u220, c221, c222, c223, c224, c225, c226, c227, c228, c229, c230, c231, c232, c233, c234, c235, c236, c237, c238, c239, c240, c241, c242, c243, c244, c245, c246, c247, c248, c249, c250, c251, c252, c253, c254, c255, c256, c257, c258, c259, c260, c261, c262, c263, c264, c265, c266, c267, c268, c269, c270, c271, c272, c273, c274, c275, c276, c277, c278, c279, c280, c281, c282, c283, c284, c285, c286, c287, c288, c289, c290, c291, c292, c293, c294, c295, c296, c297, c298, c299, c300, c301, c302, c303, c304, c305], []⟩ w) :
    Code.wp Try.prog (blk 11) Q ⟨#[.int .i64 (a : Int), .int .i64 (n : Int), c2, c3, c4, c5, c6, c7, c8, .slice (some ⟨fb, 0, none⟩) 130 130, c10, c11, .pointer (some ⟨od, 0, none⟩), c13, c14, c15, c16, .int .i64 (-1), .int .i64 (a : Int), c19, c20, c21, c22, c23, c24, c25, c26, c27, c28, c29, c30, c31, c32, c33, c34, c35, c36, c37, c38, c39, c40, c41, c42, c43, c44, c45, c46, c47, c48, c49, c50, c51, c52, c53, c54, c55, c56, c57, c58, c59, c60, c61, c62, c63, c64, c65, c66, c67, c68, c69, c70, c71, c72, c73, c74, c75, c76, c77, c78, c79, c80, c81, c82, c83, c84, c85, c86, c87, c88, c89, c90, c91, c92, c93, c94, c95, c96, c97, c98, c99, c100, c101, c102, c103, c104, c105, c106, c107, c108, c109, c110, c111, c112, c113, c114, c115, c116, c117, c118, c119, c120, c121, c122, c123, c124, c125, c126, c127, c128, c129, c130, c131, c132, c133, c134, c135, c136, c137, c138, c139, c140, c141, c142, c143, c144, c145, c146, c147, c148, c149, c150, c151, c152, c153, c154, c155, c156, c157, c158, c159, c160, c161, c162, c163, c164, c165, c166, c167, c168, c169, c170, c171, c172, c173, c174, c175, c176, c177, c178, c179, c180, c181, c182, c183, c184, c185, c186, c187, c188, c189, c190, c191, c192, c193, c194, c195, c196, c197, c198, c199, c200, c201, c202, c203, c204, c205, c206, c207, c208, c209, c210, c211, c212, c213, c214, c215, c216, c217, c218, c219, c220, c221, c222, c223, c224, c225, c226, c227, c228, c229, c230, c231, c232, c233, c234, c235, c236, c237, c238, c239, c240, c241, c242, c243, c244, c245, c246, c247, c248, c249, c250, c251, c252, c253, c254, c255, c256, c257, c258, c259, c260, c261, c262, c263, c264, c265, c266, c267, c268, c269, c270, c271, c272, c273, c274, c275, c276, c277, c278, c279, c280, c281, c282, c283, c284, c285, c286, c287, c288, c289, c290, c291, c292, c293, c294, c295, c296, c297, c298, c299, c300, c301, c302, c303, c304, c305], []⟩ w := by
  have q2 : w.cell? ⟨od, 2, none⟩ = some (.int .i64 M) := ho.cell 2
  have HB := Lib.hid hb
  have HO := Lib.hid ho
  have HQ := Lib.hid hQ
  have HG := Lib.hid hg
  unfold I64' at hM
  clear hb ho hQ hg
  by_cases h1 : 1 ≤ M
  · obtain ⟨m, rfl⟩ : ∃ m : Nat, M = (m : Int) := ⟨M.toNat, by omega⟩
    by_cases h3 : (m : Int) ≤ (n : Int)
    · have d1 : decide (1 ≤ (m : Int)) = true := by simpa using h1
      have d3 : decide ((m : Int) ≤ (n : Int)) = true := by simpa using h3
      have we1 := add_in (a := (a : Int)) (b := (n : Int)) (by omega)
      have we2 := sub_in (a := (a : Int) + (n : Int)) (b := (m : Int)) (by omega)
      conv => arg 2; whnf
      go_wp2_with (fail)
      go_loopg [17, 18] (n + 1) (fun qq s17 i wr => ∃ (j : Nat) (W : Int), j + qq = n + 1 ∧ s17 = .int .i64 W ∧ i = .int .i64 ((a + j : Nat) : Int) ∧ w = wr ∧ ((W = -1 ∧ ∀ y, a ≤ y → y < a + j → ¬ WinG g y m) ∨ (∃ v : Nat, W = (v : Int) ∧ a ≤ v ∧ WinG g v m ∧ ∀ y, a ≤ y → y < v → ¬ WinG g y m)))
      case atStart => exact ⟨0, -1, by omega, rfl, by simp, rfl, .inl ⟨rfl, fun y h1 h2 => by omega⟩⟩
      case round =>
        obtain ⟨j, W, hj, rfl, rfl, rfl, hW⟩ := hrel
        rcases hW with ⟨rfl, hno⟩ | ⟨v, rfl, hav, hwin, hmin⟩
        · have HNO := Lib.hid hno
          clear hno
          by_cases hx : ((a + j : Nat) : Int) ≤ (a : Int) + (n : Int) - (m : Int)
          · have d4 : decide (((a + j : Nat) : Int) ≤ (a : Int) + (n : Int) - (m : Int)) = true := by simpa using hx
            go_upto_block 13 with (fail)
            apply part13 w fb od (a + j) m g K A (by omega) HB.out HO.out
            intro b
            intros
            rename_i hbw
            have HBW := Lib.hid hbw
            clear hbw
            cases b
            · go_wp2_with (fail)
              go_roundg (n + 1 - (j + 1))
              case measure => omega
              case rel =>
                refine ⟨j + 1, -1, by omega, rfl, by go_num, rfl, .inl ⟨rfl, fun y h1 h2 h3 => ?_⟩⟩
                rcases (by omega : y < a + j ∨ y = a + j) with h4 | rfl
                · exact HNO.out y h1 h4 h3
                · exact absurd (HBW.out.2 h3) (by simp)
            · go_wp2_with (fail)
              go_roundg (n + 1 - (j + 1))
              case measure => omega
              case rel => exact ⟨j + 1, _, by omega, rfl, by go_num, rfl, .inr ⟨a + j, rfl, by omega, HBW.out.1 (by first | rfl | trivial), HNO.out⟩⟩
          · have d4 : decide (((a + j : Nat) : Int) ≤ (a : Int) + (n : Int) - (m : Int)) = false := by simpa using hx
            have hx' : (a : Int) + (n : Int) - (m : Int) < ((a + j : Nat) : Int) := by omega
            have F : Hid (Found a n g (m : Int) (-1)) := .inl ⟨first_no HG.out m (by omega) (fun y h2 h4 => by
              have := win_hi HG.out (by omega) h4
              exact HNO.out y h2 (by omega) h4), rfl⟩
            clear hx
            go_wp2_with (fail)
            exact HQ.out _ _ _ _ _ _ _ _ _ _ _ _ _ _ _ _ _ _ _ _ _ _ _ _ _ _ _ _ _ _ _ _ _ _ _ _ _ _ _ _ _ _ _ _ _ _ _ F.out
        · have F : Hid (Found a n g (m : Int) (v : Int)) := by
            obtain ⟨s, h4, h5⟩ := first_yes HG.out v m (by omega) hav hwin hmin
            exact .inr ⟨s, v, m, h4, h5, rfl, rfl, by omega, hav, hwin⟩
          have d2 : decide ((v : Int) < 0) = false := by simp
          clear hwin hmin
          go_wp2_with (fail)
          exact HQ.out _ _ _ _ _ _ _ _ _ _ _ _ _ _ _ _ _ _ _ _ _ _ _ _ _ _ _ _ _ _ _ _ _ _ _ _ _ _ _ _ _ _ _ _ _ _ _ F.out
    · have d1 : decide (1 ≤ (m : Int)) = true := by simpa using h1
      have d3 : decide ((m : Int) ≤ (n : Int)) = false := by simpa using h3
      have F : Hid (Found a n g (m : Int) (-1)) := .inl ⟨first_no HG.out m (by omega) (fun y h2 h4 => by
        have := win_hi HG.out (by omega) h4
        omega), rfl⟩
      conv => arg 2; whnf
      go_wp2_with (fail)
      go_loopg [17] 0 (fun _ s17 wr => s17 = .int .i64 (-1) ∧ w = wr)
      case atStart => exact ⟨rfl, rfl⟩
      case round =>
        obtain ⟨rfl, rfl⟩ := hrel
        go_wp2_with (fail)
        exact HQ.out _ _ _ _ _ _ _ _ _ _ _ _ _ _ _ _ _ _ _ _ _ _ _ _ _ _ _ _ _ _ _ _ _ _ _ _ _ _ _ _ _ _ _ _ _ _ _ F.out
  · have d1 : decide (1 ≤ M) = false := by simpa using h1
    have F : Hid (Found a n g M (-1)) := .inl ⟨first_none a n g M (by omega), rfl⟩
    conv => arg 2; whnf
    go_wp2_with (fail)
    go_loopg [17] 0 (fun _ s17 wr => s17 = .int .i64 (-1) ∧ w = wr)
    case atStart => exact ⟨rfl, rfl⟩
    case round =>
      obtain ⟨rfl, rfl⟩ := hrel
      go_wp2_with (fail)
      exact HQ.out _ _ _ _ _ _ _ _ _ _ _ _ _ _ _ _ _ _ _ _ _ _ _ _ _ _ _ _ _ _ _ _ _ _ _ _ _ _ _ _ _ _ _ _ _ _ _ F.out
end Go.Proofs.Ytbkjiinnojnkhaa
