import Derived.Test.YtchibinlcedjaaaH7
namespace Go.Proofs.Ytchibinlcedjaaa
open Go.RowKit
theorem ed10_6 : ∃ o, ops10[9]? = some o ∧ o.after.any (fun e => Region.binds .any e && e.on == 6) = true := ⟨_, by rfl, by kernel_rfl⟩
theorem ed10_13 : ∃ o, ops10[16]? = some o ∧ o.after.any (fun e => Region.binds .any e && e.on == 13) = true := ⟨_, by rfl, by kernel_rfl⟩
theorem ed10_20 : ∃ o, ops10[22]? = some o ∧ o.after.any (fun e => Region.binds .any e && e.on == 20) = true := ⟨_, by rfl, by kernel_rfl⟩
set_option maxRecDepth 1000000 in
set_option maxHeartbeats 8000000 in
theorem region10 (w : World) (B ww k : Nat) (nv0 sv0 lv0 : Value) (hk8 : k ≤ 8) (hBw : B ≤ ww) (h : Fin_ w w B ww nv0 sv0 lv0 k)
    {Q : Exit → Act → World → Prop} (hP : ∀ c a b w, Q (.panic c) a w → Q (.panic c) b w) {c0 c1 c2 c3 c4 c5 c6 c8 c9 c10 c11 c12 c13 c14 c15 c16 c17 c18 c19 c20 c21 c22 c23 c24 c25 c26 c27 c28 c29 c30 c31 c32 c33 c34 c35 c36 c37 c38 c39 c40 c41 c42 c43 c44 c45 c46 c47 c48 c49 c50 c51 c52 c53 c54 c55 c56 c57 c58 c59 c60 c61 c62 c63 c64 c65 c66 c67 c68 c69 c70 c71 c72 c73 c74 c75 c76 c77 c78 c79 c80 c81 c82 c83 c84 c85 c86 c87 c88 c89 c90 c91 c92 c93 c94 c95 c96 c97 c98 c99 c100 c101 c102 c103 c104 c105 c106 c107 c108 c109 c110 c111 c112 c113 c114 c115 c116 c117 c118 c119 c120 c121 c122 c123 c124 c125 c126 c127 c128 c129 c130 c131 c132 c133 c134 c135 c136 c137 c138 c139 c140 c141 c142 c143 c144 c145 c146 c147 c148 c149 : Value}
    (hQ : ∀ (w' : World) (nv sv lv : Value) (u28 u29 u30 u31 u32 u33 u34 u35 u36 u37 u38 u39 u40 u41 u42 u43 u44 u45 u46 u47 u48 u49 u50 u51 u52 u53 u54 u55 u56 : Value), Fin_ w w' B ww nv sv lv (k + 1) → Q .normal ⟨#[c0, c1, c2, c3, c4, c5, c6, .pointer (some ⟨ww, 0, none⟩), c8, c9, c10, c11, c12, c13, c14, c15, c16, c17, c18, c19, c20, c21, c22, c23, c24, c25, c26, c27, u28, u29, u30, u31, u32, u33, u34, u35, u36, u37, u38, u39, u40, u41, u42, u43, u44, u45, u46, u47, u48, u49, u50, u51, u52, u53, u54, u55, u56, c57, c58, c59, c60, c61, c62, c63, c64, c65, c66, c67, c68, c69, c70, c71, c72, c73, c74, c75, c76, c77, c78, c79, c80, c81, c82, c83, c84, c85, c86, c87, c88, c89, c90, c91, c92, c93, c94, c95, c96, c97, c98, c99, c100, c101, c102, c103, c104, c105, c106, c107, c108, c109, c110, c111, c112, c113, c114, c115, c116, c117, c118, c119, c120, c121, c122, c123, c124, c125, c126, c127, c128, c129, c130, c131, c132, c133, c134, c135, c136, c137, c138, c139, c140, c141, c142, c143, c144, c145, c146, c147, c148, c149], []⟩ w') :
    Code.wp Try.prog (Code.region 10 ops10 true) Q ⟨#[c0, c1, c2, c3, c4, c5, c6, .pointer (some ⟨ww, 0, none⟩), c8, c9, c10, c11, c12, c13, c14, c15, c16, c17, c18, c19, c20, c21, c22, c23, c24, c25, c26, c27, c28, c29, c30, c31, c32, c33, c34, c35, c36, c37, c38, c39, c40, c41, c42, c43, c44, c45, c46, c47, c48, c49, c50, c51, c52, c53, c54, c55, c56, c57, c58, c59, c60, c61, c62, c63, c64, c65, c66, c67, c68, c69, c70, c71, c72, c73, c74, c75, c76, c77, c78, c79, c80, c81, c82, c83, c84, c85, c86, c87, c88, c89, c90, c91, c92, c93, c94, c95, c96, c97, c98, c99, c100, c101, c102, c103, c104, c105, c106, c107, c108, c109, c110, c111, c112, c113, c114, c115, c116, c117, c118, c119, c120, c121, c122, c123, c124, c125, c126, c127, c128, c129, c130, c131, c132, c133, c134, c135, c136, c137, c138, c139, c140, c141, c142, c143, c144, c145, c146, c147, c148, c149], []⟩ w := by
  have hS : S10 ww nv0 sv0 lv0 w.drew := ⟨h.head.cell 0, h.head.cell 1, h.head.cell 2⟩
  have hb : Build w w.drew B ww nv0 sv0 lv0 nv0 sv0 lv0 k k k 0 0 0 (.slice (some ⟨0, 0, none⟩) 64 64) (.slice (some ⟨0, 0, none⟩) 64 64) 0 0 0 :=
    ⟨Nat.le_refl _, h.lo, (Below.refl _ _).drew, h.head.drew, h.rn.fr ((Fr.refl [] w).drew) (by simp) (by simp), h.rs.fr ((Fr.refl [] w).drew) (by simp) (by simp), ownsRow_fr h.rl ((Fr.refl [] w).drew) (by simp), fun e => by omega, fun e => by omega, fun e => by omega, fun e => by omega, fun e => by omega, h.ne⟩
  refine wp_region_D (S := S10 ww nv0 sv0 lv0) (T := [9, 16, 22]) (by kernel_rfl) ?_
  change wpAnyD Try.prog .any ops10 Q (S10 ww nv0 sv0 lv0) [9, 16, 22] 32 #[false, false, false, false, false, false, false, false, false, false, false, false, false, false, false, false, false, false, false, false, false, false, false, false, false, false, false, false, false, false, false, false] _ w.drew
  obtain ⟨o, ho, hop, hd, hg⟩ := op10_0
  refine wpAnyD_takeFree (i := 0) (v := .pointer (some ⟨ww, 0, none⟩)) ho sel10 (by kernel_rfl) (by kernel_rfl) (fun c a w h => hP c _ _ w h) (by decide) (.inl ⟨by simp [Region.wanted, hg], fun w _ => ?_⟩) (fun _ => hS) ?_
  · simp only [execOp, hop]
    go_simp
  rw [hd]
  go_simp
  clear ho hop hd hg o
  obtain ⟨o, ho, hop, hd, hg⟩ := op10_1
  refine wpAnyD_takeFree (i := 1) (v := .pointer (some ⟨ww, 0, none⟩)) ho sel10 (by kernel_rfl) (by kernel_rfl) (fun c a w h => hP c _ _ w h) (by decide) (.inl ⟨by simp [Region.wanted, hg], fun w _ => ?_⟩) (fun _ => hS) ?_
  · simp only [execOp, hop]
    go_simp
  rw [hd]
  go_simp
  clear ho hop hd hg o
  obtain ⟨o, ho, hop, hd, hg⟩ := op10_2
  refine wpAnyD_takeFree (i := 2) (v := .pointer (some ⟨ww, 0, none⟩)) ho sel10 (by kernel_rfl) (by kernel_rfl) (fun c a w h => hP c _ _ w h) (by decide) (.inl ⟨by simp [Region.wanted, hg], fun w _ => ?_⟩) (fun _ => hS) ?_
  · simp only [execOp, hop]
    go_simp
  rw [hd]
  go_simp
  clear ho hop hd hg o
  obtain ⟨o, ho, hop, hd, hg⟩ := op10_3
  refine wpAnyD_takeFree (i := 3) (v := .pointer (some ⟨ww, 0, none⟩)) ho sel10 (by kernel_rfl) (by kernel_rfl) (fun c a w h => hP c _ _ w h) (by decide) (.inl ⟨by simp [Region.wanted, hg], fun w _ => ?_⟩) (fun _ => hS) ?_
  · simp only [execOp, hop]
    go_simp
  rw [hd]
  go_simp
  clear ho hop hd hg o
  obtain ⟨o, ho, hop, hd, hg⟩ := op10_4
  refine wpAnyD_takeFree (i := 4) (v := .pointer (some ⟨ww, 0, none⟩)) ho sel10 (by kernel_rfl) (by kernel_rfl) (fun c a w h => hP c _ _ w h) (by decide) (.inl ⟨by simp [Region.wanted, hg], fun w _ => ?_⟩) (fun _ => hS) ?_
  · simp only [execOp, hop]
    go_simp
  rw [hd]
  go_simp
  clear ho hop hd hg o
  obtain ⟨o, ho, hop, hd, hg⟩ := op10_5
  refine wpAnyD_takeFree (i := 5) (v := .pointer (some ⟨ww, 0, none⟩)) ho sel10 (by kernel_rfl) (by kernel_rfl) (fun c a w h => hP c _ _ w h) (by decide) (.inl ⟨by simp [Region.wanted, hg], fun w _ => ?_⟩) (fun _ => hS) ?_
  · simp only [execOp, hop]
    go_simp
  rw [hd]
  go_simp
  clear ho hop hd hg o
  obtain ⟨o, ho, hop, hd, hg⟩ := op10_10
  refine wpAnyD_takeFree (i := 10) (v := .pointer (some ⟨ww, 0, none⟩)) ho sel10 (by kernel_rfl) (by kernel_rfl) (fun c a w h => hP c _ _ w h) (by decide) (.inl ⟨by simp [Region.wanted, hg], fun w _ => ?_⟩) (fun _ => hS) ?_
  · simp only [execOp, hop]
    go_simp
  rw [hd]
  go_simp
  clear ho hop hd hg o
  obtain ⟨o, ho, hop, hd, hg⟩ := op10_11
  refine wpAnyD_takeFree (i := 11) (v := .pointer (some ⟨ww, 0, none⟩)) ho sel10 (by kernel_rfl) (by kernel_rfl) (fun c a w h => hP c _ _ w h) (by decide) (.inl ⟨by simp [Region.wanted, hg], fun w _ => ?_⟩) (fun _ => hS) ?_
  · simp only [execOp, hop]
    go_simp
  rw [hd]
  go_simp
  clear ho hop hd hg o
  obtain ⟨o, ho, hop, hd, hg⟩ := op10_12
  refine wpAnyD_takeFree (i := 12) (v := .pointer (some ⟨ww, 1, none⟩)) ho sel10 (by kernel_rfl) (by kernel_rfl) (fun c a w h => hP c _ _ w h) (by decide) (.inl ⟨by simp [Region.wanted, hg], fun w _ => ?_⟩) (fun _ => hS) ?_
  · simp only [execOp, hop]
    go_simp
  rw [hd]
  go_simp
  clear ho hop hd hg o
  obtain ⟨o, ho, hop, hd, hg⟩ := op10_17
  refine wpAnyD_takeFree (i := 17) (v := .pointer (some ⟨ww, 0, none⟩)) ho sel10 (by kernel_rfl) (by kernel_rfl) (fun c a w h => hP c _ _ w h) (by decide) (.inl ⟨by simp [Region.wanted, hg], fun w _ => ?_⟩) (fun _ => hS) ?_
  · simp only [execOp, hop]
    go_simp
  rw [hd]
  go_simp
  clear ho hop hd hg o
  obtain ⟨o, ho, hop, hd, hg⟩ := op10_18
  refine wpAnyD_takeFree (i := 18) (v := .pointer (some ⟨ww, 0, none⟩)) ho sel10 (by kernel_rfl) (by kernel_rfl) (fun c a w h => hP c _ _ w h) (by decide) (.inl ⟨by simp [Region.wanted, hg], fun w _ => ?_⟩) (fun _ => hS) ?_
  · simp only [execOp, hop]
    go_simp
  rw [hd]
  go_simp
  clear ho hop hd hg o
  obtain ⟨o, ho, hop, hd, hg⟩ := op10_19
  refine wpAnyD_takeFree (i := 19) (v := .pointer (some ⟨ww, 2, none⟩)) ho sel10 (by kernel_rfl) (by kernel_rfl) (fun c a w h => hP c _ _ w h) (by decide) (.inl ⟨by simp [Region.wanted, hg], fun w _ => ?_⟩) (fun _ => hS) ?_
  · simp only [execOp, hop]
    go_simp
  rw [hd]
  go_simp
  clear ho hop hd hg o
  obtain ⟨o, ho, hop, hd, hg⟩ := op10_6
  obtain ⟨ot, hot, hed⟩ := ed10_6
  refine wpAnyD_take (i := 6) (t := 9) (v := nv0) ho sel10 (by kernel_rfl) (by kernel_rfl) (fun c a w h => hP c _ _ w h) (by decide) hot hed (by decide) (by rfl) (.inl ⟨by simp [Region.wanted, hg], fun w hSw => ?_⟩) hS ?_
  · obtain ⟨c0, c1, c2⟩ := hSw
    simp only [execOp, hop]
    go_simp
  rw [hd]
  go_simp
  clear ho hop hd hg o hot hed ot
  obtain ⟨o, ho, hop, hd, hg⟩ := op10_13
  obtain ⟨ot, hot, hed⟩ := ed10_13
  refine wpAnyD_take (i := 13) (t := 16) (v := sv0) ho sel10 (by kernel_rfl) (by kernel_rfl) (fun c a w h => hP c _ _ w h) (by decide) hot hed (by decide) (by rfl) (.inl ⟨by simp [Region.wanted, hg], fun w hSw => ?_⟩) hS ?_
  · obtain ⟨c0, c1, c2⟩ := hSw
    simp only [execOp, hop]
    go_simp
  rw [hd]
  go_simp
  clear ho hop hd hg o hot hed ot
  obtain ⟨o, ho, hop, hd, hg⟩ := op10_20
  obtain ⟨ot, hot, hed⟩ := ed10_20
  refine wpAnyD_take (i := 20) (t := 22) (v := lv0) ho sel10 (by kernel_rfl) (by kernel_rfl) (fun c a w h => hP c _ _ w h) (by decide) hot hed (by decide) (by rfl) (.inl ⟨by simp [Region.wanted, hg], fun w hSw => ?_⟩) hS ?_
  · obtain ⟨c0, c1, c2⟩ := hSw
    simp only [execOp, hop]
    go_simp
  rw [hd]
  go_simp
  clear ho hop hd hg o hot hed ot
  exact st0_000 w w.drew B ww k 0 0 0 0 0 nv0 sv0 lv0 nv0 sv0 hk8 hBw hb hP hQ
end Go.Proofs.Ytchibinlcedjaaa
