import Derived.Test.YtbkjiinnojnkhaaZ3
namespace Go.Proofs.Ytbkjiinnojnkhaa
open Go.RowKit
/-! ### ExtentAll: its parts -/
def blockOf (n : Nat) : Code → Option Code
  | .block m c => if m = n then some (.block m c) else blockOf n c
  | .seq a b => match blockOf n a with
    | some c => some c
    | none => blockOf n b
  | .loop c => blockOf n c
  | .scope c => blockOf n c
  | .cond _ a b => match blockOf n a with
    | some c => some c
    | none => blockOf n b
  | _ => none
noncomputable def blk (n : Nat) : Code := ((Try.f3.body.bind (blockOf n)).getD .skip)
theorem load_free {w : World} {fb : Nat} {g : Nat → Bool} (h : Bl w fb 4 (tv (rg 130 g))) (i : Nat) (hi : i < 130) : w.cell? ⟨fb, i, none⟩ = some (.bool (g i)) := by
  rw [h.cell]
  unfold tv
  rw [List.getElem?_map, rg_get, if_pos hi]
  rfl
def I64' (x : Int) : Prop := -9223372036854775808 ≤ x ∧ x ≤ 9223372036854775807
set_option maxRecDepth 1000000 in
set_option maxHeartbeats 4000000 in
theorem part4 (w : World) (fb od a n : Nat) (g : Nat → Bool) (K A M : Int) (hA : I64' A) (hM : I64' M) (hn : a + n ≤ 110) (hb : Bl w fb 4 (tv (rg 130 g))) (ho : Bl w od 28 [.int .i64 K, .int .i64 A, .int .i64 M])
    {Q : Exit → Act → World → Prop} (c0 c1 c2 c3 c4 c5 c6 c7 c8 c10 c11 c14 c16 c17 c18 c19 c20 c21 c22 c23 c24 c25 c26 c27 c28 c29 c30 c31 c32 c33 c34 c35 c36 c37 c38 c39 c40 c41 c42 c43 c44 c45 c46 c47 c48 c49 c50 c51 c52 c53 c54 c55 c56 c57 c58 c59 c60 c61 c62 c63 c64 c65 c66 c67 c68 c69 c70 c71 c72 c73 c74 c75 c76 c77 c78 c79 c80 c81 c82 c83 c84 c85 c86 c87 c88 c89 c90 c91 c92 c93 c94 c95 c96 c97 c98 c99 c100 c101 c102 c103 c104 c105 c106 c107 c108 c109 c110 c111 c112 c113 c114 c115 c116 c117 c118 c119 c120 c121 c122 c123 c124 c125 c126 c127 c128 c129 c130 c131 c132 c133 c134 c135 c136 c137 c138 c139 c140 c141 c142 c143 c144 c145 c146 c147 c148 c149 c150 c151 c152 c153 c154 c155 c156 c157 c158 c159 c160 c161 c162 c163 c164 c165 c166 c167 c168 c169 c170 c171 c172 c173 c174 c175 c176 c177 c178 c179 c180 c181 c182 c183 c184 c185 c186 c187 c188 c189 c190 c191 c192 c193 c194 c195 c196 c197 c198 c199 c200 c201 c202 c203 c204 c205 c206 c207 c208 c209 c210 c211 c212 c213 c214 c215 c216 c217 c218 c219 c220 c221 c222 c223 c224 c225 c226 c227 c228 c229 c230 c231 c232 c233 c234 c235 c236 c237 c238 c239 c240 c241 c242 c243 c244 c245 c246 c247 c248 c249 c250 c251 c252 c253 c254 c255 c256 c257 c258 c259 c260 c261 c262 c263 c264 c265 c266 c267 c268 c269 c270 c271 c272 c273 c274 c275 c276 c277 c278 c279 c280 c281 c282 c283 c284 c285 c286 c287 c288 c289 c290 c291 c292 c293 c294 c295 c296 c297 c298 c299 c300 c301 c302 c303 c304 c305 : Value)
    (hQ : ∀ u15 u114 u115 u116 u117 u118 u119 u120 u121 u122 u123 u124 u125 u126 u127 u128 u129 : Value, Q .normal ⟨#[c0, c1, c2, c3, c4, c5, c6, c7, c8, .slice (some ⟨fb, 0, none⟩) 130 130, c10, c11, .pointer (some ⟨od, 0, none⟩), .bool (isAll (a : Int) (own_ a n g) A M true), c14, u15, c16, c17, c18, c19, c20, c21, c22, c23, c24, c25, c26, c27, c28, c29, c30, c31, c32, c33, c34, c35, c36, c37, c38, c39, c40, c41, c42, c43, c44, c45, c46, c47, c48, c49, c50, c51, c52, c53, c54, c55, c56, c57, c58, c59, c60, c61, c62, c63, c64, c65, c66, c67, c68, c69, c70, c71, c72, c73, c74, c75, c76, c77, c78, c79, c80, c81, c82, c83, c84, c85, c86, c87, c88, c89, c90, c91, c92, c93, c94, c95, c96, c97, c98, c99, c100, c101, c102, c103, c104, c105, c106, c107, c108, c109, c110, c111, c112, c113, u114, u115, u116, u117, u118, u119, u120, u121, u122, u123, u124, u125, u126, u127, u128, u129, c130, c131, c132, c133, c134, c135, c136, c137, c138, c139, c140, c141, c142, c143, c144, c145, c146, c147, c148, c149, c150, c151, c152, c153, c154, c155, c156, c157, c158, c159, c160, c161, c162, c163, c164, c165, c166, c167, c168, c169, c170, c171, c172, c173, c174, c175, c176, c177, c178, c179, c180, c181, c182, c183, c184, c185, c186, c187, c188, c189, c190, c191, c192, c193, c194, c195, c196, c197, c198, c199, c200, c201, c202, c203, c204, c205, c206, c207, c208, c209, c210, c211, c212, c213, c214, c215, c216, c217, c218, c219, c220, c221, c222, c223, c224, c225, c226, c227, c228, c229, c230, c231, c232, c233, c234, c235, c236, c237, c238, c239, c240, c241, c242, c243, c244, c245, c246, c247, c248, c249, c250, c251, c252, c253, c254, c255, c256, c257, c258, c259, c260, c261, c262, c263, c264, c265, c266, c267, c268, c269, c270, c271, c272, c273, c274, c275, c276, c277, c278, c279, c280, c281, c282, c283, c284, c285, c286, c287, c288, c289, c290, c291, c292, c293, c294, c295, c296, c297, c298, c299, c300, c301, c302, c303, c304, c305], []⟩ w) :
    Code.wp Try.prog (blk 4) Q ⟨#[c0, c1, c2, c3, c4, c5, c6, c7, c8, .slice (some ⟨fb, 0, none⟩) 130 130, c10, c11, .pointer (some ⟨od, 0, none⟩), .bool (inside a n A M), c14, .int .i64 A, c16, c17, c18, c19, c20, c21, c22, c23, c24, c25, c26, c27, c28, c29, c30, c31, c32, c33, c34, c35, c36, c37, c38, c39, c40, c41, c42, c43, c44, c45, c46, c47, c48, c49, c50, c51, c52, c53, c54, c55, c56, c57, c58, c59, c60, c61, c62, c63, c64, c65, c66, c67, c68, c69, c70, c71, c72, c73, c74, c75, c76, c77, c78, c79, c80, c81, c82, c83, c84, c85, c86, c87, c88, c89, c90, c91, c92, c93, c94, c95, c96, c97, c98, c99, c100, c101, c102, c103, c104, c105, c106, c107, c108, c109, c110, c111, c112, c113, c114, c115, c116, c117, c118, c119, c120, c121, c122, c123, c124, c125, c126, c127, c128, c129, c130, c131, c132, c133, c134, c135, c136, c137, c138, c139, c140, c141, c142, c143, c144, c145, c146, c147, c148, c149, c150, c151, c152, c153, c154, c155, c156, c157, c158, c159, c160, c161, c162, c163, c164, c165, c166, c167, c168, c169, c170, c171, c172, c173, c174, c175, c176, c177, c178, c179, c180, c181, c182, c183, c184, c185, c186, c187, c188, c189, c190, c191, c192, c193, c194, c195, c196, c197, c198, c199, c200, c201, c202, c203, c204, c205, c206, c207, c208, c209, c210, c211, c212, c213, c214, c215, c216, c217, c218, c219, c220, c221, c222, c223, c224, c225, c226, c227, c228, c229, c230, c231, c232, c233, c234, c235, c236, c237, c238, c239, c240, c241, c242, c243, c244, c245, c246, c247, c248, c249, c250, c251, c252, c253, c254, c255, c256, c257, c258, c259, c260, c261, c262, c263, c264, c265, c266, c267, c268, c269, c270, c271, c272, c273, c274, c275, c276, c277, c278, c279, c280, c281, c282, c283, c284, c285, c286, c287, c288, c289, c290, c291, c292, c293, c294, c295, c296, c297, c298, c299, c300, c301, c302, c303, c304, c305], []⟩ w := by
  have q1 : w.cell? ⟨od, 1, none⟩ = some (.int .i64 A) := ho.cell 1
  have q2 : w.cell? ⟨od, 2, none⟩ = some (.int .i64 M) := ho.cell 2
  have HB := Lib.hid hb
  have HQ := Lib.hid hQ
  unfold I64' at hA hM
  clear hb ho hQ
  conv => arg 2; whnf
  go_wp2_with (fail)
  go_loopg [13, 15] M.toNat (fun qq s13 i wr => ∃ (j : Nat) (b : Bool), j + qq = M.toNat ∧ s13 = .bool b ∧ i = .int .i64 (A + (j : Int)) ∧ w = wr ∧ (b = true → inside a n A M = true ∧ ∀ t, t < j → g (A.toNat + t) = true) ∧ (b = false → isAll (a : Int) (own_ a n g) A M true = false))
  case atStart => exact ⟨0, inside a n A M, by omega, rfl, by simp, rfl, fun h => ⟨h, fun t ht => by omega⟩, fun h => all_out h⟩
  case round =>
    obtain ⟨j, b, hj, rfl, rfl, rfl, h1, h2⟩ := hrel
    cases b
    · have e := Lib.hid (h2 rfl)
      rw [e.out] at HQ
      clear h1 h2 e
      go_wp2_with (fail)
      exact HQ.out _ _ _ _ _ _ _ _ _ _ _ _ _ _ _ _ _
    · obtain ⟨hin, hall⟩ := h1 rfl
      have HALL := Lib.hid hall
      obtain ⟨k1, k2, k3⟩ := (inside_iff a n A M).1 hin
      have HIN := Lib.hid hin
      obtain ⟨A', rfl⟩ : ∃ A' : Nat, A = (A' : Int) := ⟨A.toNat, by omega⟩
      obtain ⟨M', rfl⟩ : ∃ M' : Nat, M = (M' : Int) := ⟨M.toNat, by omega⟩
      rw [Int.toNat_natCast] at hj
      have we := add_in (a := (A' : Int)) (b := (M' : Int)) (by omega)
      clear h1 h2 hin hall
      by_cases hlt : j < M'
      · have i4 : (A' : Int) + (j : Int) < (A' : Int) + (M' : Int) := by omega
        have c5 := load_free HB.out (A' + j) (by omega)
        have hstep : g (A' + j) = true → ∀ t, t < j + 1 → g ((A' : Int).toNat + t) = true := by
          intro h t ht
          rcases (by omega : t < j ∨ t = j) with h1 | rfl
          · exact HALL.out t h1
          · rw [Int.toNat_natCast]; exact h
        have hstop : g (A' + j) = false → isAll (a : Int) (own_ a n g) (A' : Int) (M' : Int) true = false := by
          intro h
          exact all_no (t := j) (by omega) (by rw [Int.toNat_natCast]; exact h)
        have HSTEP := Lib.hid hstep
        have HSTOP := Lib.hid hstop
        clear hstep hstop
        generalize g (A' + j) = b' at *
        go_wp2_with (fail)
        go_roundg (M' - (j + 1))
        case measure => omega
        case rel => exact ⟨j + 1, b', by omega, rfl, by go_num, rfl, fun h => ⟨HIN.out, HSTEP.out h⟩, HSTOP.out⟩
      · have e : j = M' := by omega
        subst e
        have E := Lib.hid (all_yes (c := true) HIN.out (by rw [Int.toNat_natCast]; exact HALL.out))
        rw [E.out] at HQ
        clear E
        go_wp2_with (fail)
        exact HQ.out _ _ _ _ _ _ _ _ _ _ _ _ _ _ _ _ _
end Go.Proofs.Ytbkjiinnojnkhaa
