import Derived.Test.YtchibinlcedjaaaH6
namespace Go.Proofs.Ytchibinlcedjaaa
open Go.RowKit
set_option linter.unusedVariables false
theorem info31 : (Try.prog.info? 31).map (fun i => (i.zero, i.size, i.bytes)) = some (some (.slice none 0 0), 1, 24) := by kernel_rfl
theorem info4b : (Try.prog.info? 4).map (fun i => (i.zero, i.size, i.bytes)) = some (some (.bool false), 1, 1) := by kernel_rfl
theorem run_make_z64 (W : World) : (Instr.makeSlice 31 (.int .i64 64) (.int .i64 64)).run Try.prog W = .ok (.slice (some ⟨W.heap.size, 0, none⟩) 64 64) (W.alloc (.cells (bv z64).toArray 5)) := run_make_bytes 64 (by decide) (by decide) W
theorem Build.cells10 {w1 w : World} {B ww : Nat} {nv0 sv0 lv0 nv sv lv : Value} {kn ks kl p q r : Nat} {v35 v42 : Value} {h1 h2 h3 : Nat} (h : Build w1 w B ww nv0 sv0 lv0 nv sv lv kn ks kl p q r v35 v42 h1 h2 h3) : S10 ww nv0 sv0 lv0 w := ⟨h.head.cell 0, h.head.cell 1, h.head.cell 2⟩

set_option maxRecDepth 1000000 in
set_option maxHeartbeats 8000000 in
theorem st2_001 (w1 w : World) (B ww k g1 g2 h1 h2 h3 : Nat) (nv0 sv0 lv0 nv sv : Value) (hk8 : k ≤ 8) (hBw : B ≤ ww) (h : Build w1 w B ww nv0 sv0 lv0 nv sv lv0 (k + 1) (k + 1) k 0 0 1 (.slice (some ⟨g1, 0, none⟩) 64 64) (.slice (some ⟨g2, 0, none⟩) 64 64) h1 h2 h3)
    {Q : Exit → Act → World → Prop} (hP : ∀ c a b w, Q (.panic c) a w → Q (.panic c) b w) {c0 c1 c2 c3 c4 c5 c6 c8 c9 c10 c11 c12 c13 c14 c15 c16 c17 c18 c19 c20 c21 c22 c23 c24 c25 c26 c27 c35 c36 c42 c43 c50 c51 c52 c53 c54 c55 c56 c57 c58 c59 c60 c61 c62 c63 c64 c65 c66 c67 c68 c69 c70 c71 c72 c73 c74 c75 c76 c77 c78 c79 c80 c81 c82 c83 c84 c85 c86 c87 c88 c89 c90 c91 c92 c93 c94 c95 c96 c97 c98 c99 c100 c101 c102 c103 c104 c105 c106 c107 c108 c109 c110 c111 c112 c113 c114 c115 c116 c117 c118 c119 c120 c121 c122 c123 c124 c125 c126 c127 c128 c129 c130 c131 c132 c133 c134 c135 c136 c137 c138 c139 c140 c141 c142 c143 c144 c145 c146 c147 c148 c149 : Value}
    (hQ : ∀ (w' : World) (nv sv lv : Value) (u28 u29 u30 u31 u32 u33 u34 u35 u36 u37 u38 u39 u40 u41 u42 u43 u44 u45 u46 u47 u48 u49 u50 u51 u52 u53 u54 u55 u56 : Value), Fin_ w1 w' B ww nv sv lv (k + 1) → Q .normal ⟨#[c0, c1, c2, c3, c4, c5, c6, .pointer (some ⟨ww, 0, none⟩), c8, c9, c10, c11, c12, c13, c14, c15, c16, c17, c18, c19, c20, c21, c22, c23, c24, c25, c26, c27, u28, u29, u30, u31, u32, u33, u34, u35, u36, u37, u38, u39, u40, u41, u42, u43, u44, u45, u46, u47, u48, u49, u50, u51, u52, u53, u54, u55, u56, c57, c58, c59, c60, c61, c62, c63, c64, c65, c66, c67, c68, c69, c70, c71, c72, c73, c74, c75, c76, c77, c78, c79, c80, c81, c82, c83, c84, c85, c86, c87, c88, c89, c90, c91, c92, c93, c94, c95, c96, c97, c98, c99, c100, c101, c102, c103, c104, c105, c106, c107, c108, c109, c110, c111, c112, c113, c114, c115, c116, c117, c118, c119, c120, c121, c122, c123, c124, c125, c126, c127, c128, c129, c130, c131, c132, c133, c134, c135, c136, c137, c138, c139, c140, c141, c142, c143, c144, c145, c146, c147, c148, c149], []⟩ w') :
    wpAnyD Try.prog .any ops10 Q (S10 ww nv0 sv0 lv0) [9, 16, 22] 10 #[true, true, true, true, true, true, true, true, true, true, true, true, true, true, true, true, true, true, true, true, true, true, false, false, false, false, false, false, false, false, false, false] ⟨#[c0, c1, c2, c3, c4, c5, c6, .pointer (some ⟨ww, 0, none⟩), c8, c9, c10, c11, c12, c13, c14, c15, c16, c17, c18, c19, c20, c21, c22, c23, c24, c25, c26, c27, .pointer (some ⟨ww, 0, none⟩), .pointer (some ⟨ww, 0, none⟩), .pointer (some ⟨ww, 0, none⟩), .pointer (some ⟨ww, 0, none⟩), .pointer (some ⟨ww, 0, none⟩), .pointer (some ⟨ww, 0, none⟩), nv0, c35, c36, nv, .pointer (some ⟨ww, 0, none⟩), .pointer (some ⟨ww, 0, none⟩), .pointer (some ⟨ww, 1, none⟩), sv0, c42, c43, sv, .pointer (some ⟨ww, 0, none⟩), .pointer (some ⟨ww, 0, none⟩), .pointer (some ⟨ww, 2, none⟩), lv0, .slice (some ⟨h3, 0, none⟩) 1 1, c50, c51, c52, c53, c54, c55, c56, c57, c58, c59, c60, c61, c62, c63, c64, c65, c66, c67, c68, c69, c70, c71, c72, c73, c74, c75, c76, c77, c78, c79, c80, c81, c82, c83, c84, c85, c86, c87, c88, c89, c90, c91, c92, c93, c94, c95, c96, c97, c98, c99, c100, c101, c102, c103, c104, c105, c106, c107, c108, c109, c110, c111, c112, c113, c114, c115, c116, c117, c118, c119, c120, c121, c122, c123, c124, c125, c126, c127, c128, c129, c130, c131, c132, c133, c134, c135, c136, c137, c138, c139, c140, c141, c142, c143, c144, c145, c146, c147, c148, c149], []⟩ w := by
  have hmk := run_make_z64
  refine wpAnyD_all (rs := [22]) (by kernel_rfl) (by simp) ?_
  intro i hi
  simp only [List.mem_cons, List.not_mem_nil, or_false] at hi
  rcases hi with rfl
  · skip
    obtain ⟨o, ho, hop, hd, hg⟩ := op10_22
    refine wpOp_step ho (fun K hK => ?_)
    rw [if_pos (by simp [Region.wanted, hg])]
    refine wp_app_split (.tmp 48) (.tmp 49) 28 hop B 4 (.bool false) 1 Try.underlying28 info4b (by rfl) lv0 k _ (by rfl) h.rl h3 0 1 (.bool false) (by rfl) ((h.c1 (by decide)).1.cell 0) (by rfl) (by unfold maxLen; omega) (by omega) h.lo ?_
    intro v' w' own gr _
    have hb := h.s22 own gr
    refine hK _ _ ⟨fun _ => hb.cells10, ?_⟩
    rw [hd]
    go_simp
    exact st3 w1 _ B ww k nv0 sv0 lv0 nv sv v' _ _ _ _ _ hBw hb hP _ _ _ _ _ _ _ _ _ _ _ _ _ _ _ _ _ _ _ _ _ _ _ _ _ _ _ _ _ _ _ _ _ _ _ _ _ _ _ _ _ _ _ _ _ _ _ _ _ _ _ _ _ _ _ _ _ _ _ _ _ _ _ _ _ _ _ _ _ _ _ _ _ _ _ _ _ _ _ _ _ _ _ _ _ _ _ _ _ _ _ _ _ _ _ _ _ _ _ _ _ _ _ _ _ _ _ _ _ _ _ _ _ _ _ _ _ _ _ _ _ _ _ _ _ _ _ _ _ _ _ hQ

set_option maxRecDepth 1000000 in
set_option maxHeartbeats 8000000 in
theorem st2_000 (w1 w : World) (B ww k g1 g2 h1 h2 h3 : Nat) (nv0 sv0 lv0 nv sv : Value) (hk8 : k ≤ 8) (hBw : B ≤ ww) (h : Build w1 w B ww nv0 sv0 lv0 nv sv lv0 (k + 1) (k + 1) k 0 0 0 (.slice (some ⟨g1, 0, none⟩) 64 64) (.slice (some ⟨g2, 0, none⟩) 64 64) h1 h2 h3)
    {Q : Exit → Act → World → Prop} (hP : ∀ c a b w, Q (.panic c) a w → Q (.panic c) b w) {c0 c1 c2 c3 c4 c5 c6 c8 c9 c10 c11 c12 c13 c14 c15 c16 c17 c18 c19 c20 c21 c22 c23 c24 c25 c26 c27 c35 c36 c42 c43 c49 c50 c51 c52 c53 c54 c55 c56 c57 c58 c59 c60 c61 c62 c63 c64 c65 c66 c67 c68 c69 c70 c71 c72 c73 c74 c75 c76 c77 c78 c79 c80 c81 c82 c83 c84 c85 c86 c87 c88 c89 c90 c91 c92 c93 c94 c95 c96 c97 c98 c99 c100 c101 c102 c103 c104 c105 c106 c107 c108 c109 c110 c111 c112 c113 c114 c115 c116 c117 c118 c119 c120 c121 c122 c123 c124 c125 c126 c127 c128 c129 c130 c131 c132 c133 c134 c135 c136 c137 c138 c139 c140 c141 c142 c143 c144 c145 c146 c147 c148 c149 : Value}
    (hQ : ∀ (w' : World) (nv sv lv : Value) (u28 u29 u30 u31 u32 u33 u34 u35 u36 u37 u38 u39 u40 u41 u42 u43 u44 u45 u46 u47 u48 u49 u50 u51 u52 u53 u54 u55 u56 : Value), Fin_ w1 w' B ww nv sv lv (k + 1) → Q .normal ⟨#[c0, c1, c2, c3, c4, c5, c6, .pointer (some ⟨ww, 0, none⟩), c8, c9, c10, c11, c12, c13, c14, c15, c16, c17, c18, c19, c20, c21, c22, c23, c24, c25, c26, c27, u28, u29, u30, u31, u32, u33, u34, u35, u36, u37, u38, u39, u40, u41, u42, u43, u44, u45, u46, u47, u48, u49, u50, u51, u52, u53, u54, u55, u56, c57, c58, c59, c60, c61, c62, c63, c64, c65, c66, c67, c68, c69, c70, c71, c72, c73, c74, c75, c76, c77, c78, c79, c80, c81, c82, c83, c84, c85, c86, c87, c88, c89, c90, c91, c92, c93, c94, c95, c96, c97, c98, c99, c100, c101, c102, c103, c104, c105, c106, c107, c108, c109, c110, c111, c112, c113, c114, c115, c116, c117, c118, c119, c120, c121, c122, c123, c124, c125, c126, c127, c128, c129, c130, c131, c132, c133, c134, c135, c136, c137, c138, c139, c140, c141, c142, c143, c144, c145, c146, c147, c148, c149], []⟩ w') :
    wpAnyD Try.prog .any ops10 Q (S10 ww nv0 sv0 lv0) [9, 16, 22] 11 #[true, true, true, true, true, true, true, true, true, true, true, true, true, true, true, true, true, true, true, true, true, false, false, false, false, false, false, false, false, false, false, false] ⟨#[c0, c1, c2, c3, c4, c5, c6, .pointer (some ⟨ww, 0, none⟩), c8, c9, c10, c11, c12, c13, c14, c15, c16, c17, c18, c19, c20, c21, c22, c23, c24, c25, c26, c27, .pointer (some ⟨ww, 0, none⟩), .pointer (some ⟨ww, 0, none⟩), .pointer (some ⟨ww, 0, none⟩), .pointer (some ⟨ww, 0, none⟩), .pointer (some ⟨ww, 0, none⟩), .pointer (some ⟨ww, 0, none⟩), nv0, c35, c36, nv, .pointer (some ⟨ww, 0, none⟩), .pointer (some ⟨ww, 0, none⟩), .pointer (some ⟨ww, 1, none⟩), sv0, c42, c43, sv, .pointer (some ⟨ww, 0, none⟩), .pointer (some ⟨ww, 0, none⟩), .pointer (some ⟨ww, 2, none⟩), lv0, c49, c50, c51, c52, c53, c54, c55, c56, c57, c58, c59, c60, c61, c62, c63, c64, c65, c66, c67, c68, c69, c70, c71, c72, c73, c74, c75, c76, c77, c78, c79, c80, c81, c82, c83, c84, c85, c86, c87, c88, c89, c90, c91, c92, c93, c94, c95, c96, c97, c98, c99, c100, c101, c102, c103, c104, c105, c106, c107, c108, c109, c110, c111, c112, c113, c114, c115, c116, c117, c118, c119, c120, c121, c122, c123, c124, c125, c126, c127, c128, c129, c130, c131, c132, c133, c134, c135, c136, c137, c138, c139, c140, c141, c142, c143, c144, c145, c146, c147, c148, c149], []⟩ w := by
  have hmk := run_make_z64
  refine wpAnyD_all (rs := [21]) (by kernel_rfl) (by simp) ?_
  intro i hi
  simp only [List.mem_cons, List.not_mem_nil, or_false] at hi
  rcases hi with rfl
  · skip
    obtain ⟨o, ho, hop, hd, hg⟩ := op10_21
    refine wpOp_step ho (fun K hK => ?_)
    rw [if_pos (by simp [Region.wanted, hg])]
    unfold Oper.wp
    simp only [execOp, hop]
    go_simp
    refine hK _ _ ⟨fun _ => h.s21.cells10, ?_⟩
    go_simp
    exact st2_001 w1 _ B ww k g1 g2 h1 h2 w.heap.size nv0 sv0 lv0 nv sv hk8 hBw h.s21 hP hQ

set_option maxRecDepth 1000000 in
set_option maxHeartbeats 8000000 in
theorem st1_021 (w1 w : World) (B ww k g1 g2 h1 h2 h3 : Nat) (nv0 sv0 lv0 nv sv : Value) (hk8 : k ≤ 8) (hBw : B ≤ ww) (h : Build w1 w B ww nv0 sv0 lv0 nv sv0 lv0 (k + 1) k k 0 2 1 (.slice (some ⟨g1, 0, none⟩) 64 64) (.slice (some ⟨g2, 0, none⟩) 64 64) h1 h2 h3)
    {Q : Exit → Act → World → Prop} (hP : ∀ c a b w, Q (.panic c) a w → Q (.panic c) b w) {c0 c1 c2 c3 c4 c5 c6 c8 c9 c10 c11 c12 c13 c14 c15 c16 c17 c18 c19 c20 c21 c22 c23 c24 c25 c26 c27 c35 c36 c44 c50 c51 c52 c53 c54 c55 c56 c57 c58 c59 c60 c61 c62 c63 c64 c65 c66 c67 c68 c69 c70 c71 c72 c73 c74 c75 c76 c77 c78 c79 c80 c81 c82 c83 c84 c85 c86 c87 c88 c89 c90 c91 c92 c93 c94 c95 c96 c97 c98 c99 c100 c101 c102 c103 c104 c105 c106 c107 c108 c109 c110 c111 c112 c113 c114 c115 c116 c117 c118 c119 c120 c121 c122 c123 c124 c125 c126 c127 c128 c129 c130 c131 c132 c133 c134 c135 c136 c137 c138 c139 c140 c141 c142 c143 c144 c145 c146 c147 c148 c149 : Value}
    (hQ : ∀ (w' : World) (nv sv lv : Value) (u28 u29 u30 u31 u32 u33 u34 u35 u36 u37 u38 u39 u40 u41 u42 u43 u44 u45 u46 u47 u48 u49 u50 u51 u52 u53 u54 u55 u56 : Value), Fin_ w1 w' B ww nv sv lv (k + 1) → Q .normal ⟨#[c0, c1, c2, c3, c4, c5, c6, .pointer (some ⟨ww, 0, none⟩), c8, c9, c10, c11, c12, c13, c14, c15, c16, c17, c18, c19, c20, c21, c22, c23, c24, c25, c26, c27, u28, u29, u30, u31, u32, u33, u34, u35, u36, u37, u38, u39, u40, u41, u42, u43, u44, u45, u46, u47, u48, u49, u50, u51, u52, u53, u54, u55, u56, c57, c58, c59, c60, c61, c62, c63, c64, c65, c66, c67, c68, c69, c70, c71, c72, c73, c74, c75, c76, c77, c78, c79, c80, c81, c82, c83, c84, c85, c86, c87, c88, c89, c90, c91, c92, c93, c94, c95, c96, c97, c98, c99, c100, c101, c102, c103, c104, c105, c106, c107, c108, c109, c110, c111, c112, c113, c114, c115, c116, c117, c118, c119, c120, c121, c122, c123, c124, c125, c126, c127, c128, c129, c130, c131, c132, c133, c134, c135, c136, c137, c138, c139, c140, c141, c142, c143, c144, c145, c146, c147, c148, c149], []⟩ w') :
    wpAnyD Try.prog .any ops10 Q (S10 ww nv0 sv0 lv0) [9, 16, 22] 11 #[true, true, true, true, true, true, true, true, true, true, true, true, true, true, true, true, false, true, true, true, true, true, false, false, false, false, false, false, false, false, false, false] ⟨#[c0, c1, c2, c3, c4, c5, c6, .pointer (some ⟨ww, 0, none⟩), c8, c9, c10, c11, c12, c13, c14, c15, c16, c17, c18, c19, c20, c21, c22, c23, c24, c25, c26, c27, .pointer (some ⟨ww, 0, none⟩), .pointer (some ⟨ww, 0, none⟩), .pointer (some ⟨ww, 0, none⟩), .pointer (some ⟨ww, 0, none⟩), .pointer (some ⟨ww, 0, none⟩), .pointer (some ⟨ww, 0, none⟩), nv0, c35, c36, nv, .pointer (some ⟨ww, 0, none⟩), .pointer (some ⟨ww, 0, none⟩), .pointer (some ⟨ww, 1, none⟩), sv0, .slice (some ⟨g2, 0, none⟩) 64 64, .slice (some ⟨h2, 0, none⟩) 1 1, c44, .pointer (some ⟨ww, 0, none⟩), .pointer (some ⟨ww, 0, none⟩), .pointer (some ⟨ww, 2, none⟩), lv0, .slice (some ⟨h3, 0, none⟩) 1 1, c50, c51, c52, c53, c54, c55, c56, c57, c58, c59, c60, c61, c62, c63, c64, c65, c66, c67, c68, c69, c70, c71, c72, c73, c74, c75, c76, c77, c78, c79, c80, c81, c82, c83, c84, c85, c86, c87, c88, c89, c90, c91, c92, c93, c94, c95, c96, c97, c98, c99, c100, c101, c102, c103, c104, c105, c106, c107, c108, c109, c110, c111, c112, c113, c114, c115, c116, c117, c118, c119, c120, c121, c122, c123, c124, c125, c126, c127, c128, c129, c130, c131, c132, c133, c134, c135, c136, c137, c138, c139, c140, c141, c142, c143, c144, c145, c146, c147, c148, c149], []⟩ w := by
  have hmk := run_make_z64
  refine wpAnyD_all (rs := [16]) (by kernel_rfl) (by simp) ?_
  intro i hi
  simp only [List.mem_cons, List.not_mem_nil, or_false] at hi
  rcases hi with rfl
  · skip
    obtain ⟨o, ho, hop, hd, hg⟩ := op10_16
    refine wpOp_step ho (fun K hK => ?_)
    rw [if_pos (by simp [Region.wanted, hg])]
    obtain ⟨cells, hc⟩ := h.rs
    refine wp_app_split (.tmp 41) (.tmp 43) 27 hop B 31 (.slice none 0 0) 24 Try.underlying27 info31 (by rfl) sv0 k cells (by rfl) hc.1 h2 0 1 (.slice (some ⟨g2, 0, none⟩) 64 64) (by rfl) ((h.b2 (by decide)).1.cell 0) (by rfl) (by unfold maxLen; omega) (by omega) h.lo ?_
    intro v' w' own gr sp
    have hb := h.s16 (by decide) cells hc own gr sp
    refine hK _ _ ⟨fun _ => hb.cells10, ?_⟩
    rw [hd]
    go_simp
    exact st2_001 w1 _ B ww k g1 g2 h1 h2 h3 nv0 sv0 lv0 nv v' hk8 hBw hb hP hQ

set_option maxRecDepth 1000000 in
set_option maxHeartbeats 8000000 in
theorem st1_020 (w1 w : World) (B ww k g1 g2 h1 h2 h3 : Nat) (nv0 sv0 lv0 nv sv : Value) (hk8 : k ≤ 8) (hBw : B ≤ ww) (h : Build w1 w B ww nv0 sv0 lv0 nv sv0 lv0 (k + 1) k k 0 2 0 (.slice (some ⟨g1, 0, none⟩) 64 64) (.slice (some ⟨g2, 0, none⟩) 64 64) h1 h2 h3)
    {Q : Exit → Act → World → Prop} (hP : ∀ c a b w, Q (.panic c) a w → Q (.panic c) b w) {c0 c1 c2 c3 c4 c5 c6 c8 c9 c10 c11 c12 c13 c14 c15 c16 c17 c18 c19 c20 c21 c22 c23 c24 c25 c26 c27 c35 c36 c44 c49 c50 c51 c52 c53 c54 c55 c56 c57 c58 c59 c60 c61 c62 c63 c64 c65 c66 c67 c68 c69 c70 c71 c72 c73 c74 c75 c76 c77 c78 c79 c80 c81 c82 c83 c84 c85 c86 c87 c88 c89 c90 c91 c92 c93 c94 c95 c96 c97 c98 c99 c100 c101 c102 c103 c104 c105 c106 c107 c108 c109 c110 c111 c112 c113 c114 c115 c116 c117 c118 c119 c120 c121 c122 c123 c124 c125 c126 c127 c128 c129 c130 c131 c132 c133 c134 c135 c136 c137 c138 c139 c140 c141 c142 c143 c144 c145 c146 c147 c148 c149 : Value}
    (hQ : ∀ (w' : World) (nv sv lv : Value) (u28 u29 u30 u31 u32 u33 u34 u35 u36 u37 u38 u39 u40 u41 u42 u43 u44 u45 u46 u47 u48 u49 u50 u51 u52 u53 u54 u55 u56 : Value), Fin_ w1 w' B ww nv sv lv (k + 1) → Q .normal ⟨#[c0, c1, c2, c3, c4, c5, c6, .pointer (some ⟨ww, 0, none⟩), c8, c9, c10, c11, c12, c13, c14, c15, c16, c17, c18, c19, c20, c21, c22, c23, c24, c25, c26, c27, u28, u29, u30, u31, u32, u33, u34, u35, u36, u37, u38, u39, u40, u41, u42, u43, u44, u45, u46, u47, u48, u49, u50, u51, u52, u53, u54, u55, u56, c57, c58, c59, c60, c61, c62, c63, c64, c65, c66, c67, c68, c69, c70, c71, c72, c73, c74, c75, c76, c77, c78, c79, c80, c81, c82, c83, c84, c85, c86, c87, c88, c89, c90, c91, c92, c93, c94, c95, c96, c97, c98, c99, c100, c101, c102, c103, c104, c105, c106, c107, c108, c109, c110, c111, c112, c113, c114, c115, c116, c117, c118, c119, c120, c121, c122, c123, c124, c125, c126, c127, c128, c129, c130, c131, c132, c133, c134, c135, c136, c137, c138, c139, c140, c141, c142, c143, c144, c145, c146, c147, c148, c149], []⟩ w') :
    wpAnyD Try.prog .any ops10 Q (S10 ww nv0 sv0 lv0) [9, 16, 22] 12 #[true, true, true, true, true, true, true, true, true, true, true, true, true, true, true, true, false, true, true, true, true, false, false, false, false, false, false, false, false, false, false, false] ⟨#[c0, c1, c2, c3, c4, c5, c6, .pointer (some ⟨ww, 0, none⟩), c8, c9, c10, c11, c12, c13, c14, c15, c16, c17, c18, c19, c20, c21, c22, c23, c24, c25, c26, c27, .pointer (some ⟨ww, 0, none⟩), .pointer (some ⟨ww, 0, none⟩), .pointer (some ⟨ww, 0, none⟩), .pointer (some ⟨ww, 0, none⟩), .pointer (some ⟨ww, 0, none⟩), .pointer (some ⟨ww, 0, none⟩), nv0, c35, c36, nv, .pointer (some ⟨ww, 0, none⟩), .pointer (some ⟨ww, 0, none⟩), .pointer (some ⟨ww, 1, none⟩), sv0, .slice (some ⟨g2, 0, none⟩) 64 64, .slice (some ⟨h2, 0, none⟩) 1 1, c44, .pointer (some ⟨ww, 0, none⟩), .pointer (some ⟨ww, 0, none⟩), .pointer (some ⟨ww, 2, none⟩), lv0, c49, c50, c51, c52, c53, c54, c55, c56, c57, c58, c59, c60, c61, c62, c63, c64, c65, c66, c67, c68, c69, c70, c71, c72, c73, c74, c75, c76, c77, c78, c79, c80, c81, c82, c83, c84, c85, c86, c87, c88, c89, c90, c91, c92, c93, c94, c95, c96, c97, c98, c99, c100, c101, c102, c103, c104, c105, c106, c107, c108, c109, c110, c111, c112, c113, c114, c115, c116, c117, c118, c119, c120, c121, c122, c123, c124, c125, c126, c127, c128, c129, c130, c131, c132, c133, c134, c135, c136, c137, c138, c139, c140, c141, c142, c143, c144, c145, c146, c147, c148, c149], []⟩ w := by
  have hmk := run_make_z64
  refine wpAnyD_all (rs := [16, 21]) (by kernel_rfl) (by simp) ?_
  intro i hi
  simp only [List.mem_cons, List.not_mem_nil, or_false] at hi
  rcases hi with rfl | rfl
  · skip
    obtain ⟨o, ho, hop, hd, hg⟩ := op10_16
    refine wpOp_step ho (fun K hK => ?_)
    rw [if_pos (by simp [Region.wanted, hg])]
    obtain ⟨cells, hc⟩ := h.rs
    refine wp_app_split (.tmp 41) (.tmp 43) 27 hop B 31 (.slice none 0 0) 24 Try.underlying27 info31 (by rfl) sv0 k cells (by rfl) hc.1 h2 0 1 (.slice (some ⟨g2, 0, none⟩) 64 64) (by rfl) ((h.b2 (by decide)).1.cell 0) (by rfl) (by unfold maxLen; omega) (by omega) h.lo ?_
    intro v' w' own gr sp
    have hb := h.s16 (by decide) cells hc own gr sp
    refine hK _ _ ⟨fun _ => hb.cells10, ?_⟩
    rw [hd]
    go_simp
    exact st2_000 w1 _ B ww k g1 g2 h1 h2 h3 nv0 sv0 lv0 nv v' hk8 hBw hb hP hQ
  · skip
    obtain ⟨o, ho, hop, hd, hg⟩ := op10_21
    refine wpOp_step ho (fun K hK => ?_)
    rw [if_pos (by simp [Region.wanted, hg])]
    unfold Oper.wp
    simp only [execOp, hop]
    go_simp
    refine hK _ _ ⟨fun _ => h.s21.cells10, ?_⟩
    go_simp
    exact st1_021 w1 _ B ww k g1 g2 h1 h2 w.heap.size nv0 sv0 lv0 nv sv hk8 hBw h.s21 hP hQ

set_option maxRecDepth 1000000 in
set_option maxHeartbeats 8000000 in
theorem st1_011 (w1 w : World) (B ww k g1 g2 h1 h2 h3 : Nat) (nv0 sv0 lv0 nv sv : Value) (hk8 : k ≤ 8) (hBw : B ≤ ww) (h : Build w1 w B ww nv0 sv0 lv0 nv sv0 lv0 (k + 1) k k 0 1 1 (.slice (some ⟨g1, 0, none⟩) 64 64) (.slice (some ⟨g2, 0, none⟩) 64 64) h1 h2 h3)
    {Q : Exit → Act → World → Prop} (hP : ∀ c a b w, Q (.panic c) a w → Q (.panic c) b w) {c0 c1 c2 c3 c4 c5 c6 c8 c9 c10 c11 c12 c13 c14 c15 c16 c17 c18 c19 c20 c21 c22 c23 c24 c25 c26 c27 c35 c36 c43 c44 c50 c51 c52 c53 c54 c55 c56 c57 c58 c59 c60 c61 c62 c63 c64 c65 c66 c67 c68 c69 c70 c71 c72 c73 c74 c75 c76 c77 c78 c79 c80 c81 c82 c83 c84 c85 c86 c87 c88 c89 c90 c91 c92 c93 c94 c95 c96 c97 c98 c99 c100 c101 c102 c103 c104 c105 c106 c107 c108 c109 c110 c111 c112 c113 c114 c115 c116 c117 c118 c119 c120 c121 c122 c123 c124 c125 c126 c127 c128 c129 c130 c131 c132 c133 c134 c135 c136 c137 c138 c139 c140 c141 c142 c143 c144 c145 c146 c147 c148 c149 : Value}
    (hQ : ∀ (w' : World) (nv sv lv : Value) (u28 u29 u30 u31 u32 u33 u34 u35 u36 u37 u38 u39 u40 u41 u42 u43 u44 u45 u46 u47 u48 u49 u50 u51 u52 u53 u54 u55 u56 : Value), Fin_ w1 w' B ww nv sv lv (k + 1) → Q .normal ⟨#[c0, c1, c2, c3, c4, c5, c6, .pointer (some ⟨ww, 0, none⟩), c8, c9, c10, c11, c12, c13, c14, c15, c16, c17, c18, c19, c20, c21, c22, c23, c24, c25, c26, c27, u28, u29, u30, u31, u32, u33, u34, u35, u36, u37, u38, u39, u40, u41, u42, u43, u44, u45, u46, u47, u48, u49, u50, u51, u52, u53, u54, u55, u56, c57, c58, c59, c60, c61, c62, c63, c64, c65, c66, c67, c68, c69, c70, c71, c72, c73, c74, c75, c76, c77, c78, c79, c80, c81, c82, c83, c84, c85, c86, c87, c88, c89, c90, c91, c92, c93, c94, c95, c96, c97, c98, c99, c100, c101, c102, c103, c104, c105, c106, c107, c108, c109, c110, c111, c112, c113, c114, c115, c116, c117, c118, c119, c120, c121, c122, c123, c124, c125, c126, c127, c128, c129, c130, c131, c132, c133, c134, c135, c136, c137, c138, c139, c140, c141, c142, c143, c144, c145, c146, c147, c148, c149], []⟩ w') :
    wpAnyD Try.prog .any ops10 Q (S10 ww nv0 sv0 lv0) [9, 16, 22] 12 #[true, true, true, true, true, true, true, true, true, true, true, true, true, true, true, false, false, true, true, true, true, true, false, false, false, false, false, false, false, false, false, false] ⟨#[c0, c1, c2, c3, c4, c5, c6, .pointer (some ⟨ww, 0, none⟩), c8, c9, c10, c11, c12, c13, c14, c15, c16, c17, c18, c19, c20, c21, c22, c23, c24, c25, c26, c27, .pointer (some ⟨ww, 0, none⟩), .pointer (some ⟨ww, 0, none⟩), .pointer (some ⟨ww, 0, none⟩), .pointer (some ⟨ww, 0, none⟩), .pointer (some ⟨ww, 0, none⟩), .pointer (some ⟨ww, 0, none⟩), nv0, c35, c36, nv, .pointer (some ⟨ww, 0, none⟩), .pointer (some ⟨ww, 0, none⟩), .pointer (some ⟨ww, 1, none⟩), sv0, .slice (some ⟨g2, 0, none⟩) 64 64, c43, c44, .pointer (some ⟨ww, 0, none⟩), .pointer (some ⟨ww, 0, none⟩), .pointer (some ⟨ww, 2, none⟩), lv0, .slice (some ⟨h3, 0, none⟩) 1 1, c50, c51, c52, c53, c54, c55, c56, c57, c58, c59, c60, c61, c62, c63, c64, c65, c66, c67, c68, c69, c70, c71, c72, c73, c74, c75, c76, c77, c78, c79, c80, c81, c82, c83, c84, c85, c86, c87, c88, c89, c90, c91, c92, c93, c94, c95, c96, c97, c98, c99, c100, c101, c102, c103, c104, c105, c106, c107, c108, c109, c110, c111, c112, c113, c114, c115, c116, c117, c118, c119, c120, c121, c122, c123, c124, c125, c126, c127, c128, c129, c130, c131, c132, c133, c134, c135, c136, c137, c138, c139, c140, c141, c142, c143, c144, c145, c146, c147, c148, c149], []⟩ w := by
  have hmk := run_make_z64
  refine wpAnyD_all (rs := [15]) (by kernel_rfl) (by simp) ?_
  intro i hi
  simp only [List.mem_cons, List.not_mem_nil, or_false] at hi
  rcases hi with rfl
  · skip
    obtain ⟨o, ho, hop, hd, hg⟩ := op10_15
    refine wpOp_step ho (fun K hK => ?_)
    rw [if_pos (by simp [Region.wanted, hg])]
    unfold Oper.wp
    simp only [execOp, hop]
    go_simp
    refine hK _ _ ⟨fun _ => h.s15.cells10, ?_⟩
    go_simp
    exact st1_021 w1 _ B ww k g1 g2 h1 w.heap.size h3 nv0 sv0 lv0 nv sv hk8 hBw h.s15 hP hQ

set_option maxRecDepth 1000000 in
set_option maxHeartbeats 8000000 in
theorem st1_010 (w1 w : World) (B ww k g1 g2 h1 h2 h3 : Nat) (nv0 sv0 lv0 nv sv : Value) (hk8 : k ≤ 8) (hBw : B ≤ ww) (h : Build w1 w B ww nv0 sv0 lv0 nv sv0 lv0 (k + 1) k k 0 1 0 (.slice (some ⟨g1, 0, none⟩) 64 64) (.slice (some ⟨g2, 0, none⟩) 64 64) h1 h2 h3)
    {Q : Exit → Act → World → Prop} (hP : ∀ c a b w, Q (.panic c) a w → Q (.panic c) b w) {c0 c1 c2 c3 c4 c5 c6 c8 c9 c10 c11 c12 c13 c14 c15 c16 c17 c18 c19 c20 c21 c22 c23 c24 c25 c26 c27 c35 c36 c43 c44 c49 c50 c51 c52 c53 c54 c55 c56 c57 c58 c59 c60 c61 c62 c63 c64 c65 c66 c67 c68 c69 c70 c71 c72 c73 c74 c75 c76 c77 c78 c79 c80 c81 c82 c83 c84 c85 c86 c87 c88 c89 c90 c91 c92 c93 c94 c95 c96 c97 c98 c99 c100 c101 c102 c103 c104 c105 c106 c107 c108 c109 c110 c111 c112 c113 c114 c115 c116 c117 c118 c119 c120 c121 c122 c123 c124 c125 c126 c127 c128 c129 c130 c131 c132 c133 c134 c135 c136 c137 c138 c139 c140 c141 c142 c143 c144 c145 c146 c147 c148 c149 : Value}
    (hQ : ∀ (w' : World) (nv sv lv : Value) (u28 u29 u30 u31 u32 u33 u34 u35 u36 u37 u38 u39 u40 u41 u42 u43 u44 u45 u46 u47 u48 u49 u50 u51 u52 u53 u54 u55 u56 : Value), Fin_ w1 w' B ww nv sv lv (k + 1) → Q .normal ⟨#[c0, c1, c2, c3, c4, c5, c6, .pointer (some ⟨ww, 0, none⟩), c8, c9, c10, c11, c12, c13, c14, c15, c16, c17, c18, c19, c20, c21, c22, c23, c24, c25, c26, c27, u28, u29, u30, u31, u32, u33, u34, u35, u36, u37, u38, u39, u40, u41, u42, u43, u44, u45, u46, u47, u48, u49, u50, u51, u52, u53, u54, u55, u56, c57, c58, c59, c60, c61, c62, c63, c64, c65, c66, c67, c68, c69, c70, c71, c72, c73, c74, c75, c76, c77, c78, c79, c80, c81, c82, c83, c84, c85, c86, c87, c88, c89, c90, c91, c92, c93, c94, c95, c96, c97, c98, c99, c100, c101, c102, c103, c104, c105, c106, c107, c108, c109, c110, c111, c112, c113, c114, c115, c116, c117, c118, c119, c120, c121, c122, c123, c124, c125, c126, c127, c128, c129, c130, c131, c132, c133, c134, c135, c136, c137, c138, c139, c140, c141, c142, c143, c144, c145, c146, c147, c148, c149], []⟩ w') :
    wpAnyD Try.prog .any ops10 Q (S10 ww nv0 sv0 lv0) [9, 16, 22] 13 #[true, true, true, true, true, true, true, true, true, true, true, true, true, true, true, false, false, true, true, true, true, false, false, false, false, false, false, false, false, false, false, false] ⟨#[c0, c1, c2, c3, c4, c5, c6, .pointer (some ⟨ww, 0, none⟩), c8, c9, c10, c11, c12, c13, c14, c15, c16, c17, c18, c19, c20, c21, c22, c23, c24, c25, c26, c27, .pointer (some ⟨ww, 0, none⟩), .pointer (some ⟨ww, 0, none⟩), .pointer (some ⟨ww, 0, none⟩), .pointer (some ⟨ww, 0, none⟩), .pointer (some ⟨ww, 0, none⟩), .pointer (some ⟨ww, 0, none⟩), nv0, c35, c36, nv, .pointer (some ⟨ww, 0, none⟩), .pointer (some ⟨ww, 0, none⟩), .pointer (some ⟨ww, 1, none⟩), sv0, .slice (some ⟨g2, 0, none⟩) 64 64, c43, c44, .pointer (some ⟨ww, 0, none⟩), .pointer (some ⟨ww, 0, none⟩), .pointer (some ⟨ww, 2, none⟩), lv0, c49, c50, c51, c52, c53, c54, c55, c56, c57, c58, c59, c60, c61, c62, c63, c64, c65, c66, c67, c68, c69, c70, c71, c72, c73, c74, c75, c76, c77, c78, c79, c80, c81, c82, c83, c84, c85, c86, c87, c88, c89, c90, c91, c92, c93, c94, c95, c96, c97, c98, c99, c100, c101, c102, c103, c104, c105, c106, c107, c108, c109, c110, c111, c112, c113, c114, c115, c116, c117, c118, c119, c120, c121, c122, c123, c124, c125, c126, c127, c128, c129, c130, c131, c132, c133, c134, c135, c136, c137, c138, c139, c140, c141, c142, c143, c144, c145, c146, c147, c148, c149], []⟩ w := by
  have hmk := run_make_z64
  refine wpAnyD_all (rs := [15, 21]) (by kernel_rfl) (by simp) ?_
  intro i hi
  simp only [List.mem_cons, List.not_mem_nil, or_false] at hi
  rcases hi with rfl | rfl
  · skip
    obtain ⟨o, ho, hop, hd, hg⟩ := op10_15
    refine wpOp_step ho (fun K hK => ?_)
    rw [if_pos (by simp [Region.wanted, hg])]
    unfold Oper.wp
    simp only [execOp, hop]
    go_simp
    refine hK _ _ ⟨fun _ => h.s15.cells10, ?_⟩
    go_simp
    exact st1_020 w1 _ B ww k g1 g2 h1 w.heap.size h3 nv0 sv0 lv0 nv sv hk8 hBw h.s15 hP hQ
  · skip
    obtain ⟨o, ho, hop, hd, hg⟩ := op10_21
    refine wpOp_step ho (fun K hK => ?_)
    rw [if_pos (by simp [Region.wanted, hg])]
    unfold Oper.wp
    simp only [execOp, hop]
    go_simp
    refine hK _ _ ⟨fun _ => h.s21.cells10, ?_⟩
    go_simp
    exact st1_011 w1 _ B ww k g1 g2 h1 h2 w.heap.size nv0 sv0 lv0 nv sv hk8 hBw h.s21 hP hQ

set_option maxRecDepth 1000000 in
set_option maxHeartbeats 8000000 in
theorem st1_001 (w1 w : World) (B ww k g1 g2 h1 h2 h3 : Nat) (nv0 sv0 lv0 nv sv : Value) (hk8 : k ≤ 8) (hBw : B ≤ ww) (h : Build w1 w B ww nv0 sv0 lv0 nv sv0 lv0 (k + 1) k k 0 0 1 (.slice (some ⟨g1, 0, none⟩) 64 64) (.slice (some ⟨g2, 0, none⟩) 64 64) h1 h2 h3)
    {Q : Exit → Act → World → Prop} (hP : ∀ c a b w, Q (.panic c) a w → Q (.panic c) b w) {c0 c1 c2 c3 c4 c5 c6 c8 c9 c10 c11 c12 c13 c14 c15 c16 c17 c18 c19 c20 c21 c22 c23 c24 c25 c26 c27 c35 c36 c42 c43 c44 c50 c51 c52 c53 c54 c55 c56 c57 c58 c59 c60 c61 c62 c63 c64 c65 c66 c67 c68 c69 c70 c71 c72 c73 c74 c75 c76 c77 c78 c79 c80 c81 c82 c83 c84 c85 c86 c87 c88 c89 c90 c91 c92 c93 c94 c95 c96 c97 c98 c99 c100 c101 c102 c103 c104 c105 c106 c107 c108 c109 c110 c111 c112 c113 c114 c115 c116 c117 c118 c119 c120 c121 c122 c123 c124 c125 c126 c127 c128 c129 c130 c131 c132 c133 c134 c135 c136 c137 c138 c139 c140 c141 c142 c143 c144 c145 c146 c147 c148 c149 : Value}
    (hQ : ∀ (w' : World) (nv sv lv : Value) (u28 u29 u30 u31 u32 u33 u34 u35 u36 u37 u38 u39 u40 u41 u42 u43 u44 u45 u46 u47 u48 u49 u50 u51 u52 u53 u54 u55 u56 : Value), Fin_ w1 w' B ww nv sv lv (k + 1) → Q .normal ⟨#[c0, c1, c2, c3, c4, c5, c6, .pointer (some ⟨ww, 0, none⟩), c8, c9, c10, c11, c12, c13, c14, c15, c16, c17, c18, c19, c20, c21, c22, c23, c24, c25, c26, c27, u28, u29, u30, u31, u32, u33, u34, u35, u36, u37, u38, u39, u40, u41, u42, u43, u44, u45, u46, u47, u48, u49, u50, u51, u52, u53, u54, u55, u56, c57, c58, c59, c60, c61, c62, c63, c64, c65, c66, c67, c68, c69, c70, c71, c72, c73, c74, c75, c76, c77, c78, c79, c80, c81, c82, c83, c84, c85, c86, c87, c88, c89, c90, c91, c92, c93, c94, c95, c96, c97, c98, c99, c100, c101, c102, c103, c104, c105, c106, c107, c108, c109, c110, c111, c112, c113, c114, c115, c116, c117, c118, c119, c120, c121, c122, c123, c124, c125, c126, c127, c128, c129, c130, c131, c132, c133, c134, c135, c136, c137, c138, c139, c140, c141, c142, c143, c144, c145, c146, c147, c148, c149], []⟩ w') :
    wpAnyD Try.prog .any ops10 Q (S10 ww nv0 sv0 lv0) [9, 16, 22] 13 #[true, true, true, true, true, true, true, true, true, true, true, true, true, true, false, false, false, true, true, true, true, true, false, false, false, false, false, false, false, false, false, false] ⟨#[c0, c1, c2, c3, c4, c5, c6, .pointer (some ⟨ww, 0, none⟩), c8, c9, c10, c11, c12, c13, c14, c15, c16, c17, c18, c19, c20, c21, c22, c23, c24, c25, c26, c27, .pointer (some ⟨ww, 0, none⟩), .pointer (some ⟨ww, 0, none⟩), .pointer (some ⟨ww, 0, none⟩), .pointer (some ⟨ww, 0, none⟩), .pointer (some ⟨ww, 0, none⟩), .pointer (some ⟨ww, 0, none⟩), nv0, c35, c36, nv, .pointer (some ⟨ww, 0, none⟩), .pointer (some ⟨ww, 0, none⟩), .pointer (some ⟨ww, 1, none⟩), sv0, c42, c43, c44, .pointer (some ⟨ww, 0, none⟩), .pointer (some ⟨ww, 0, none⟩), .pointer (some ⟨ww, 2, none⟩), lv0, .slice (some ⟨h3, 0, none⟩) 1 1, c50, c51, c52, c53, c54, c55, c56, c57, c58, c59, c60, c61, c62, c63, c64, c65, c66, c67, c68, c69, c70, c71, c72, c73, c74, c75, c76, c77, c78, c79, c80, c81, c82, c83, c84, c85, c86, c87, c88, c89, c90, c91, c92, c93, c94, c95, c96, c97, c98, c99, c100, c101, c102, c103, c104, c105, c106, c107, c108, c109, c110, c111, c112, c113, c114, c115, c116, c117, c118, c119, c120, c121, c122, c123, c124, c125, c126, c127, c128, c129, c130, c131, c132, c133, c134, c135, c136, c137, c138, c139, c140, c141, c142, c143, c144, c145, c146, c147, c148, c149], []⟩ w := by
  have hmk := run_make_z64
  refine wpAnyD_all (rs := [14]) (by kernel_rfl) (by simp) ?_
  intro i hi
  simp only [List.mem_cons, List.not_mem_nil, or_false] at hi
  rcases hi with rfl
  · skip
    obtain ⟨o, ho, hop, hd, hg⟩ := op10_14
    refine wpOp_step ho (fun K hK => ?_)
    rw [if_pos (by simp [Region.wanted, hg])]
    unfold Oper.wp
    simp only [execOp, hop]
    go_simp
    refine hK _ _ ⟨fun _ => h.s14.cells10, ?_⟩
    go_simp
    exact st1_011 w1 _ B ww k g1 w.heap.size h1 h2 h3 nv0 sv0 lv0 nv sv hk8 hBw h.s14 hP hQ

set_option maxRecDepth 1000000 in
set_option maxHeartbeats 8000000 in
theorem st1_000 (w1 w : World) (B ww k g1 g2 h1 h2 h3 : Nat) (nv0 sv0 lv0 nv sv : Value) (hk8 : k ≤ 8) (hBw : B ≤ ww) (h : Build w1 w B ww nv0 sv0 lv0 nv sv0 lv0 (k + 1) k k 0 0 0 (.slice (some ⟨g1, 0, none⟩) 64 64) (.slice (some ⟨g2, 0, none⟩) 64 64) h1 h2 h3)
    {Q : Exit → Act → World → Prop} (hP : ∀ c a b w, Q (.panic c) a w → Q (.panic c) b w) {c0 c1 c2 c3 c4 c5 c6 c8 c9 c10 c11 c12 c13 c14 c15 c16 c17 c18 c19 c20 c21 c22 c23 c24 c25 c26 c27 c35 c36 c42 c43 c44 c49 c50 c51 c52 c53 c54 c55 c56 c57 c58 c59 c60 c61 c62 c63 c64 c65 c66 c67 c68 c69 c70 c71 c72 c73 c74 c75 c76 c77 c78 c79 c80 c81 c82 c83 c84 c85 c86 c87 c88 c89 c90 c91 c92 c93 c94 c95 c96 c97 c98 c99 c100 c101 c102 c103 c104 c105 c106 c107 c108 c109 c110 c111 c112 c113 c114 c115 c116 c117 c118 c119 c120 c121 c122 c123 c124 c125 c126 c127 c128 c129 c130 c131 c132 c133 c134 c135 c136 c137 c138 c139 c140 c141 c142 c143 c144 c145 c146 c147 c148 c149 : Value}
    (hQ : ∀ (w' : World) (nv sv lv : Value) (u28 u29 u30 u31 u32 u33 u34 u35 u36 u37 u38 u39 u40 u41 u42 u43 u44 u45 u46 u47 u48 u49 u50 u51 u52 u53 u54 u55 u56 : Value), Fin_ w1 w' B ww nv sv lv (k + 1) → Q .normal ⟨#[c0, c1, c2, c3, c4, c5, c6, .pointer (some ⟨ww, 0, none⟩), c8, c9, c10, c11, c12, c13, c14, c15, c16, c17, c18, c19, c20, c21, c22, c23, c24, c25, c26, c27, u28, u29, u30, u31, u32, u33, u34, u35, u36, u37, u38, u39, u40, u41, u42, u43, u44, u45, u46, u47, u48, u49, u50, u51, u52, u53, u54, u55, u56, c57, c58, c59, c60, c61, c62, c63, c64, c65, c66, c67, c68, c69, c70, c71, c72, c73, c74, c75, c76, c77, c78, c79, c80, c81, c82, c83, c84, c85, c86, c87, c88, c89, c90, c91, c92, c93, c94, c95, c96, c97, c98, c99, c100, c101, c102, c103, c104, c105, c106, c107, c108, c109, c110, c111, c112, c113, c114, c115, c116, c117, c118, c119, c120, c121, c122, c123, c124, c125, c126, c127, c128, c129, c130, c131, c132, c133, c134, c135, c136, c137, c138, c139, c140, c141, c142, c143, c144, c145, c146, c147, c148, c149], []⟩ w') :
    wpAnyD Try.prog .any ops10 Q (S10 ww nv0 sv0 lv0) [9, 16, 22] 14 #[true, true, true, true, true, true, true, true, true, true, true, true, true, true, false, false, false, true, true, true, true, false, false, false, false, false, false, false, false, false, false, false] ⟨#[c0, c1, c2, c3, c4, c5, c6, .pointer (some ⟨ww, 0, none⟩), c8, c9, c10, c11, c12, c13, c14, c15, c16, c17, c18, c19, c20, c21, c22, c23, c24, c25, c26, c27, .pointer (some ⟨ww, 0, none⟩), .pointer (some ⟨ww, 0, none⟩), .pointer (some ⟨ww, 0, none⟩), .pointer (some ⟨ww, 0, none⟩), .pointer (some ⟨ww, 0, none⟩), .pointer (some ⟨ww, 0, none⟩), nv0, c35, c36, nv, .pointer (some ⟨ww, 0, none⟩), .pointer (some ⟨ww, 0, none⟩), .pointer (some ⟨ww, 1, none⟩), sv0, c42, c43, c44, .pointer (some ⟨ww, 0, none⟩), .pointer (some ⟨ww, 0, none⟩), .pointer (some ⟨ww, 2, none⟩), lv0, c49, c50, c51, c52, c53, c54, c55, c56, c57, c58, c59, c60, c61, c62, c63, c64, c65, c66, c67, c68, c69, c70, c71, c72, c73, c74, c75, c76, c77, c78, c79, c80, c81, c82, c83, c84, c85, c86, c87, c88, c89, c90, c91, c92, c93, c94, c95, c96, c97, c98, c99, c100, c101, c102, c103, c104, c105, c106, c107, c108, c109, c110, c111, c112, c113, c114, c115, c116, c117, c118, c119, c120, c121, c122, c123, c124, c125, c126, c127, c128, c129, c130, c131, c132, c133, c134, c135, c136, c137, c138, c139, c140, c141, c142, c143, c144, c145, c146, c147, c148, c149], []⟩ w := by
  have hmk := run_make_z64
  refine wpAnyD_all (rs := [14, 21]) (by kernel_rfl) (by simp) ?_
  intro i hi
  simp only [List.mem_cons, List.not_mem_nil, or_false] at hi
  rcases hi with rfl | rfl
  · skip
    obtain ⟨o, ho, hop, hd, hg⟩ := op10_14
    refine wpOp_step ho (fun K hK => ?_)
    rw [if_pos (by simp [Region.wanted, hg])]
    unfold Oper.wp
    simp only [execOp, hop]
    go_simp
    refine hK _ _ ⟨fun _ => h.s14.cells10, ?_⟩
    go_simp
    exact st1_010 w1 _ B ww k g1 w.heap.size h1 h2 h3 nv0 sv0 lv0 nv sv hk8 hBw h.s14 hP hQ
  · skip
    obtain ⟨o, ho, hop, hd, hg⟩ := op10_21
    refine wpOp_step ho (fun K hK => ?_)
    rw [if_pos (by simp [Region.wanted, hg])]
    unfold Oper.wp
    simp only [execOp, hop]
    go_simp
    refine hK _ _ ⟨fun _ => h.s21.cells10, ?_⟩
    go_simp
    exact st1_001 w1 _ B ww k g1 g2 h1 h2 w.heap.size nv0 sv0 lv0 nv sv hk8 hBw h.s21 hP hQ

set_option maxRecDepth 1000000 in
set_option maxHeartbeats 8000000 in
theorem st0_221 (w1 w : World) (B ww k g1 g2 h1 h2 h3 : Nat) (nv0 sv0 lv0 nv sv : Value) (hk8 : k ≤ 8) (hBw : B ≤ ww) (h : Build w1 w B ww nv0 sv0 lv0 nv0 sv0 lv0 k k k 2 2 1 (.slice (some ⟨g1, 0, none⟩) 64 64) (.slice (some ⟨g2, 0, none⟩) 64 64) h1 h2 h3)
    {Q : Exit → Act → World → Prop} (hP : ∀ c a b w, Q (.panic c) a w → Q (.panic c) b w) {c0 c1 c2 c3 c4 c5 c6 c8 c9 c10 c11 c12 c13 c14 c15 c16 c17 c18 c19 c20 c21 c22 c23 c24 c25 c26 c27 c37 c44 c50 c51 c52 c53 c54 c55 c56 c57 c58 c59 c60 c61 c62 c63 c64 c65 c66 c67 c68 c69 c70 c71 c72 c73 c74 c75 c76 c77 c78 c79 c80 c81 c82 c83 c84 c85 c86 c87 c88 c89 c90 c91 c92 c93 c94 c95 c96 c97 c98 c99 c100 c101 c102 c103 c104 c105 c106 c107 c108 c109 c110 c111 c112 c113 c114 c115 c116 c117 c118 c119 c120 c121 c122 c123 c124 c125 c126 c127 c128 c129 c130 c131 c132 c133 c134 c135 c136 c137 c138 c139 c140 c141 c142 c143 c144 c145 c146 c147 c148 c149 : Value}
    (hQ : ∀ (w' : World) (nv sv lv : Value) (u28 u29 u30 u31 u32 u33 u34 u35 u36 u37 u38 u39 u40 u41 u42 u43 u44 u45 u46 u47 u48 u49 u50 u51 u52 u53 u54 u55 u56 : Value), Fin_ w1 w' B ww nv sv lv (k + 1) → Q .normal ⟨#[c0, c1, c2, c3, c4, c5, c6, .pointer (some ⟨ww, 0, none⟩), c8, c9, c10, c11, c12, c13, c14, c15, c16, c17, c18, c19, c20, c21, c22, c23, c24, c25, c26, c27, u28, u29, u30, u31, u32, u33, u34, u35, u36, u37, u38, u39, u40, u41, u42, u43, u44, u45, u46, u47, u48, u49, u50, u51, u52, u53, u54, u55, u56, c57, c58, c59, c60, c61, c62, c63, c64, c65, c66, c67, c68, c69, c70, c71, c72, c73, c74, c75, c76, c77, c78, c79, c80, c81, c82, c83, c84, c85, c86, c87, c88, c89, c90, c91, c92, c93, c94, c95, c96, c97, c98, c99, c100, c101, c102, c103, c104, c105, c106, c107, c108, c109, c110, c111, c112, c113, c114, c115, c116, c117, c118, c119, c120, c121, c122, c123, c124, c125, c126, c127, c128, c129, c130, c131, c132, c133, c134, c135, c136, c137, c138, c139, c140, c141, c142, c143, c144, c145, c146, c147, c148, c149], []⟩ w') :
    wpAnyD Try.prog .any ops10 Q (S10 ww nv0 sv0 lv0) [9, 16, 22] 12 #[true, true, true, true, true, true, true, true, true, false, true, true, true, true, true, true, false, true, true, true, true, true, false, false, false, false, false, false, false, false, false, false] ⟨#[c0, c1, c2, c3, c4, c5, c6, .pointer (some ⟨ww, 0, none⟩), c8, c9, c10, c11, c12, c13, c14, c15, c16, c17, c18, c19, c20, c21, c22, c23, c24, c25, c26, c27, .pointer (some ⟨ww, 0, none⟩), .pointer (some ⟨ww, 0, none⟩), .pointer (some ⟨ww, 0, none⟩), .pointer (some ⟨ww, 0, none⟩), .pointer (some ⟨ww, 0, none⟩), .pointer (some ⟨ww, 0, none⟩), nv0, .slice (some ⟨g1, 0, none⟩) 64 64, .slice (some ⟨h1, 0, none⟩) 1 1, c37, .pointer (some ⟨ww, 0, none⟩), .pointer (some ⟨ww, 0, none⟩), .pointer (some ⟨ww, 1, none⟩), sv0, .slice (some ⟨g2, 0, none⟩) 64 64, .slice (some ⟨h2, 0, none⟩) 1 1, c44, .pointer (some ⟨ww, 0, none⟩), .pointer (some ⟨ww, 0, none⟩), .pointer (some ⟨ww, 2, none⟩), lv0, .slice (some ⟨h3, 0, none⟩) 1 1, c50, c51, c52, c53, c54, c55, c56, c57, c58, c59, c60, c61, c62, c63, c64, c65, c66, c67, c68, c69, c70, c71, c72, c73, c74, c75, c76, c77, c78, c79, c80, c81, c82, c83, c84, c85, c86, c87, c88, c89, c90, c91, c92, c93, c94, c95, c96, c97, c98, c99, c100, c101, c102, c103, c104, c105, c106, c107, c108, c109, c110, c111, c112, c113, c114, c115, c116, c117, c118, c119, c120, c121, c122, c123, c124, c125, c126, c127, c128, c129, c130, c131, c132, c133, c134, c135, c136, c137, c138, c139, c140, c141, c142, c143, c144, c145, c146, c147, c148, c149], []⟩ w := by
  have hmk := run_make_z64
  refine wpAnyD_all (rs := [9]) (by kernel_rfl) (by simp) ?_
  intro i hi
  simp only [List.mem_cons, List.not_mem_nil, or_false] at hi
  rcases hi with rfl
  · skip
    obtain ⟨o, ho, hop, hd, hg⟩ := op10_9
    refine wpOp_step ho (fun K hK => ?_)
    rw [if_pos (by simp [Region.wanted, hg])]
    obtain ⟨cells, hc⟩ := h.rn
    refine wp_app_split (.tmp 34) (.tmp 36) 27 hop B 31 (.slice none 0 0) 24 Try.underlying27 info31 (by rfl) nv0 k cells (by rfl) hc.1 h1 0 1 (.slice (some ⟨g1, 0, none⟩) 64 64) (by rfl) ((h.a2 (by decide)).1.cell 0) (by rfl) (by unfold maxLen; omega) (by omega) h.lo ?_
    intro v' w' own gr sp
    have hb := h.s9 cells hc own gr sp
    refine hK _ _ ⟨fun _ => hb.cells10, ?_⟩
    rw [hd]
    go_simp
    exact st1_021 w1 _ B ww k g1 g2 h1 h2 h3 nv0 sv0 lv0 v' sv hk8 hBw hb hP hQ

set_option maxRecDepth 1000000 in
set_option maxHeartbeats 8000000 in
theorem st0_220 (w1 w : World) (B ww k g1 g2 h1 h2 h3 : Nat) (nv0 sv0 lv0 nv sv : Value) (hk8 : k ≤ 8) (hBw : B ≤ ww) (h : Build w1 w B ww nv0 sv0 lv0 nv0 sv0 lv0 k k k 2 2 0 (.slice (some ⟨g1, 0, none⟩) 64 64) (.slice (some ⟨g2, 0, none⟩) 64 64) h1 h2 h3)
    {Q : Exit → Act → World → Prop} (hP : ∀ c a b w, Q (.panic c) a w → Q (.panic c) b w) {c0 c1 c2 c3 c4 c5 c6 c8 c9 c10 c11 c12 c13 c14 c15 c16 c17 c18 c19 c20 c21 c22 c23 c24 c25 c26 c27 c37 c44 c49 c50 c51 c52 c53 c54 c55 c56 c57 c58 c59 c60 c61 c62 c63 c64 c65 c66 c67 c68 c69 c70 c71 c72 c73 c74 c75 c76 c77 c78 c79 c80 c81 c82 c83 c84 c85 c86 c87 c88 c89 c90 c91 c92 c93 c94 c95 c96 c97 c98 c99 c100 c101 c102 c103 c104 c105 c106 c107 c108 c109 c110 c111 c112 c113 c114 c115 c116 c117 c118 c119 c120 c121 c122 c123 c124 c125 c126 c127 c128 c129 c130 c131 c132 c133 c134 c135 c136 c137 c138 c139 c140 c141 c142 c143 c144 c145 c146 c147 c148 c149 : Value}
    (hQ : ∀ (w' : World) (nv sv lv : Value) (u28 u29 u30 u31 u32 u33 u34 u35 u36 u37 u38 u39 u40 u41 u42 u43 u44 u45 u46 u47 u48 u49 u50 u51 u52 u53 u54 u55 u56 : Value), Fin_ w1 w' B ww nv sv lv (k + 1) → Q .normal ⟨#[c0, c1, c2, c3, c4, c5, c6, .pointer (some ⟨ww, 0, none⟩), c8, c9, c10, c11, c12, c13, c14, c15, c16, c17, c18, c19, c20, c21, c22, c23, c24, c25, c26, c27, u28, u29, u30, u31, u32, u33, u34, u35, u36, u37, u38, u39, u40, u41, u42, u43, u44, u45, u46, u47, u48, u49, u50, u51, u52, u53, u54, u55, u56, c57, c58, c59, c60, c61, c62, c63, c64, c65, c66, c67, c68, c69, c70, c71, c72, c73, c74, c75, c76, c77, c78, c79, c80, c81, c82, c83, c84, c85, c86, c87, c88, c89, c90, c91, c92, c93, c94, c95, c96, c97, c98, c99, c100, c101, c102, c103, c104, c105, c106, c107, c108, c109, c110, c111, c112, c113, c114, c115, c116, c117, c118, c119, c120, c121, c122, c123, c124, c125, c126, c127, c128, c129, c130, c131, c132, c133, c134, c135, c136, c137, c138, c139, c140, c141, c142, c143, c144, c145, c146, c147, c148, c149], []⟩ w') :
    wpAnyD Try.prog .any ops10 Q (S10 ww nv0 sv0 lv0) [9, 16, 22] 13 #[true, true, true, true, true, true, true, true, true, false, true, true, true, true, true, true, false, true, true, true, true, false, false, false, false, false, false, false, false, false, false, false] ⟨#[c0, c1, c2, c3, c4, c5, c6, .pointer (some ⟨ww, 0, none⟩), c8, c9, c10, c11, c12, c13, c14, c15, c16, c17, c18, c19, c20, c21, c22, c23, c24, c25, c26, c27, .pointer (some ⟨ww, 0, none⟩), .pointer (some ⟨ww, 0, none⟩), .pointer (some ⟨ww, 0, none⟩), .pointer (some ⟨ww, 0, none⟩), .pointer (some ⟨ww, 0, none⟩), .pointer (some ⟨ww, 0, none⟩), nv0, .slice (some ⟨g1, 0, none⟩) 64 64, .slice (some ⟨h1, 0, none⟩) 1 1, c37, .pointer (some ⟨ww, 0, none⟩), .pointer (some ⟨ww, 0, none⟩), .pointer (some ⟨ww, 1, none⟩), sv0, .slice (some ⟨g2, 0, none⟩) 64 64, .slice (some ⟨h2, 0, none⟩) 1 1, c44, .pointer (some ⟨ww, 0, none⟩), .pointer (some ⟨ww, 0, none⟩), .pointer (some ⟨ww, 2, none⟩), lv0, c49, c50, c51, c52, c53, c54, c55, c56, c57, c58, c59, c60, c61, c62, c63, c64, c65, c66, c67, c68, c69, c70, c71, c72, c73, c74, c75, c76, c77, c78, c79, c80, c81, c82, c83, c84, c85, c86, c87, c88, c89, c90, c91, c92, c93, c94, c95, c96, c97, c98, c99, c100, c101, c102, c103, c104, c105, c106, c107, c108, c109, c110, c111, c112, c113, c114, c115, c116, c117, c118, c119, c120, c121, c122, c123, c124, c125, c126, c127, c128, c129, c130, c131, c132, c133, c134, c135, c136, c137, c138, c139, c140, c141, c142, c143, c144, c145, c146, c147, c148, c149], []⟩ w := by
  have hmk := run_make_z64
  refine wpAnyD_all (rs := [9, 21]) (by kernel_rfl) (by simp) ?_
  intro i hi
  simp only [List.mem_cons, List.not_mem_nil, or_false] at hi
  rcases hi with rfl | rfl
  · skip
    obtain ⟨o, ho, hop, hd, hg⟩ := op10_9
    refine wpOp_step ho (fun K hK => ?_)
    rw [if_pos (by simp [Region.wanted, hg])]
    obtain ⟨cells, hc⟩ := h.rn
    refine wp_app_split (.tmp 34) (.tmp 36) 27 hop B 31 (.slice none 0 0) 24 Try.underlying27 info31 (by rfl) nv0 k cells (by rfl) hc.1 h1 0 1 (.slice (some ⟨g1, 0, none⟩) 64 64) (by rfl) ((h.a2 (by decide)).1.cell 0) (by rfl) (by unfold maxLen; omega) (by omega) h.lo ?_
    intro v' w' own gr sp
    have hb := h.s9 cells hc own gr sp
    refine hK _ _ ⟨fun _ => hb.cells10, ?_⟩
    rw [hd]
    go_simp
    exact st1_020 w1 _ B ww k g1 g2 h1 h2 h3 nv0 sv0 lv0 v' sv hk8 hBw hb hP hQ
  · skip
    obtain ⟨o, ho, hop, hd, hg⟩ := op10_21
    refine wpOp_step ho (fun K hK => ?_)
    rw [if_pos (by simp [Region.wanted, hg])]
    unfold Oper.wp
    simp only [execOp, hop]
    go_simp
    refine hK _ _ ⟨fun _ => h.s21.cells10, ?_⟩
    go_simp
    exact st0_221 w1 _ B ww k g1 g2 h1 h2 w.heap.size nv0 sv0 lv0 nv sv hk8 hBw h.s21 hP hQ

set_option maxRecDepth 1000000 in
set_option maxHeartbeats 8000000 in
theorem st0_211 (w1 w : World) (B ww k g1 g2 h1 h2 h3 : Nat) (nv0 sv0 lv0 nv sv : Value) (hk8 : k ≤ 8) (hBw : B ≤ ww) (h : Build w1 w B ww nv0 sv0 lv0 nv0 sv0 lv0 k k k 2 1 1 (.slice (some ⟨g1, 0, none⟩) 64 64) (.slice (some ⟨g2, 0, none⟩) 64 64) h1 h2 h3)
    {Q : Exit → Act → World → Prop} (hP : ∀ c a b w, Q (.panic c) a w → Q (.panic c) b w) {c0 c1 c2 c3 c4 c5 c6 c8 c9 c10 c11 c12 c13 c14 c15 c16 c17 c18 c19 c20 c21 c22 c23 c24 c25 c26 c27 c37 c43 c44 c50 c51 c52 c53 c54 c55 c56 c57 c58 c59 c60 c61 c62 c63 c64 c65 c66 c67 c68 c69 c70 c71 c72 c73 c74 c75 c76 c77 c78 c79 c80 c81 c82 c83 c84 c85 c86 c87 c88 c89 c90 c91 c92 c93 c94 c95 c96 c97 c98 c99 c100 c101 c102 c103 c104 c105 c106 c107 c108 c109 c110 c111 c112 c113 c114 c115 c116 c117 c118 c119 c120 c121 c122 c123 c124 c125 c126 c127 c128 c129 c130 c131 c132 c133 c134 c135 c136 c137 c138 c139 c140 c141 c142 c143 c144 c145 c146 c147 c148 c149 : Value}
    (hQ : ∀ (w' : World) (nv sv lv : Value) (u28 u29 u30 u31 u32 u33 u34 u35 u36 u37 u38 u39 u40 u41 u42 u43 u44 u45 u46 u47 u48 u49 u50 u51 u52 u53 u54 u55 u56 : Value), Fin_ w1 w' B ww nv sv lv (k + 1) → Q .normal ⟨#[c0, c1, c2, c3, c4, c5, c6, .pointer (some ⟨ww, 0, none⟩), c8, c9, c10, c11, c12, c13, c14, c15, c16, c17, c18, c19, c20, c21, c22, c23, c24, c25, c26, c27, u28, u29, u30, u31, u32, u33, u34, u35, u36, u37, u38, u39, u40, u41, u42, u43, u44, u45, u46, u47, u48, u49, u50, u51, u52, u53, u54, u55, u56, c57, c58, c59, c60, c61, c62, c63, c64, c65, c66, c67, c68, c69, c70, c71, c72, c73, c74, c75, c76, c77, c78, c79, c80, c81, c82, c83, c84, c85, c86, c87, c88, c89, c90, c91, c92, c93, c94, c95, c96, c97, c98, c99, c100, c101, c102, c103, c104, c105, c106, c107, c108, c109, c110, c111, c112, c113, c114, c115, c116, c117, c118, c119, c120, c121, c122, c123, c124, c125, c126, c127, c128, c129, c130, c131, c132, c133, c134, c135, c136, c137, c138, c139, c140, c141, c142, c143, c144, c145, c146, c147, c148, c149], []⟩ w') :
    wpAnyD Try.prog .any ops10 Q (S10 ww nv0 sv0 lv0) [9, 16, 22] 13 #[true, true, true, true, true, true, true, true, true, false, true, true, true, true, true, false, false, true, true, true, true, true, false, false, false, false, false, false, false, false, false, false] ⟨#[c0, c1, c2, c3, c4, c5, c6, .pointer (some ⟨ww, 0, none⟩), c8, c9, c10, c11, c12, c13, c14, c15, c16, c17, c18, c19, c20, c21, c22, c23, c24, c25, c26, c27, .pointer (some ⟨ww, 0, none⟩), .pointer (some ⟨ww, 0, none⟩), .pointer (some ⟨ww, 0, none⟩), .pointer (some ⟨ww, 0, none⟩), .pointer (some ⟨ww, 0, none⟩), .pointer (some ⟨ww, 0, none⟩), nv0, .slice (some ⟨g1, 0, none⟩) 64 64, .slice (some ⟨h1, 0, none⟩) 1 1, c37, .pointer (some ⟨ww, 0, none⟩), .pointer (some ⟨ww, 0, none⟩), .pointer (some ⟨ww, 1, none⟩), sv0, .slice (some ⟨g2, 0, none⟩) 64 64, c43, c44, .pointer (some ⟨ww, 0, none⟩), .pointer (some ⟨ww, 0, none⟩), .pointer (some ⟨ww, 2, none⟩), lv0, .slice (some ⟨h3, 0, none⟩) 1 1, c50, c51, c52, c53, c54, c55, c56, c57, c58, c59, c60, c61, c62, c63, c64, c65, c66, c67, c68, c69, c70, c71, c72, c73, c74, c75, c76, c77, c78, c79, c80, c81, c82, c83, c84, c85, c86, c87, c88, c89, c90, c91, c92, c93, c94, c95, c96, c97, c98, c99, c100, c101, c102, c103, c104, c105, c106, c107, c108, c109, c110, c111, c112, c113, c114, c115, c116, c117, c118, c119, c120, c121, c122, c123, c124, c125, c126, c127, c128, c129, c130, c131, c132, c133, c134, c135, c136, c137, c138, c139, c140, c141, c142, c143, c144, c145, c146, c147, c148, c149], []⟩ w := by
  have hmk := run_make_z64
  refine wpAnyD_all (rs := [9, 15]) (by kernel_rfl) (by simp) ?_
  intro i hi
  simp only [List.mem_cons, List.not_mem_nil, or_false] at hi
  rcases hi with rfl | rfl
  · skip
    obtain ⟨o, ho, hop, hd, hg⟩ := op10_9
    refine wpOp_step ho (fun K hK => ?_)
    rw [if_pos (by simp [Region.wanted, hg])]
    obtain ⟨cells, hc⟩ := h.rn
    refine wp_app_split (.tmp 34) (.tmp 36) 27 hop B 31 (.slice none 0 0) 24 Try.underlying27 info31 (by rfl) nv0 k cells (by rfl) hc.1 h1 0 1 (.slice (some ⟨g1, 0, none⟩) 64 64) (by rfl) ((h.a2 (by decide)).1.cell 0) (by rfl) (by unfold maxLen; omega) (by omega) h.lo ?_
    intro v' w' own gr sp
    have hb := h.s9 cells hc own gr sp
    refine hK _ _ ⟨fun _ => hb.cells10, ?_⟩
    rw [hd]
    go_simp
    exact st1_011 w1 _ B ww k g1 g2 h1 h2 h3 nv0 sv0 lv0 v' sv hk8 hBw hb hP hQ
  · skip
    obtain ⟨o, ho, hop, hd, hg⟩ := op10_15
    refine wpOp_step ho (fun K hK => ?_)
    rw [if_pos (by simp [Region.wanted, hg])]
    unfold Oper.wp
    simp only [execOp, hop]
    go_simp
    refine hK _ _ ⟨fun _ => h.s15.cells10, ?_⟩
    go_simp
    exact st0_221 w1 _ B ww k g1 g2 h1 w.heap.size h3 nv0 sv0 lv0 nv sv hk8 hBw h.s15 hP hQ

set_option maxRecDepth 1000000 in
set_option maxHeartbeats 8000000 in
theorem st0_210 (w1 w : World) (B ww k g1 g2 h1 h2 h3 : Nat) (nv0 sv0 lv0 nv sv : Value) (hk8 : k ≤ 8) (hBw : B ≤ ww) (h : Build w1 w B ww nv0 sv0 lv0 nv0 sv0 lv0 k k k 2 1 0 (.slice (some ⟨g1, 0, none⟩) 64 64) (.slice (some ⟨g2, 0, none⟩) 64 64) h1 h2 h3)
    {Q : Exit → Act → World → Prop} (hP : ∀ c a b w, Q (.panic c) a w → Q (.panic c) b w) {c0 c1 c2 c3 c4 c5 c6 c8 c9 c10 c11 c12 c13 c14 c15 c16 c17 c18 c19 c20 c21 c22 c23 c24 c25 c26 c27 c37 c43 c44 c49 c50 c51 c52 c53 c54 c55 c56 c57 c58 c59 c60 c61 c62 c63 c64 c65 c66 c67 c68 c69 c70 c71 c72 c73 c74 c75 c76 c77 c78 c79 c80 c81 c82 c83 c84 c85 c86 c87 c88 c89 c90 c91 c92 c93 c94 c95 c96 c97 c98 c99 c100 c101 c102 c103 c104 c105 c106 c107 c108 c109 c110 c111 c112 c113 c114 c115 c116 c117 c118 c119 c120 c121 c122 c123 c124 c125 c126 c127 c128 c129 c130 c131 c132 c133 c134 c135 c136 c137 c138 c139 c140 c141 c142 c143 c144 c145 c146 c147 c148 c149 : Value}
    (hQ : ∀ (w' : World) (nv sv lv : Value) (u28 u29 u30 u31 u32 u33 u34 u35 u36 u37 u38 u39 u40 u41 u42 u43 u44 u45 u46 u47 u48 u49 u50 u51 u52 u53 u54 u55 u56 : Value), Fin_ w1 w' B ww nv sv lv (k + 1) → Q .normal ⟨#[c0, c1, c2, c3, c4, c5, c6, .pointer (some ⟨ww, 0, none⟩), c8, c9, c10, c11, c12, c13, c14, c15, c16, c17, c18, c19, c20, c21, c22, c23, c24, c25, c26, c27, u28, u29, u30, u31, u32, u33, u34, u35, u36, u37, u38, u39, u40, u41, u42, u43, u44, u45, u46, u47, u48, u49, u50, u51, u52, u53, u54, u55, u56, c57, c58, c59, c60, c61, c62, c63, c64, c65, c66, c67, c68, c69, c70, c71, c72, c73, c74, c75, c76, c77, c78, c79, c80, c81, c82, c83, c84, c85, c86, c87, c88, c89, c90, c91, c92, c93, c94, c95, c96, c97, c98, c99, c100, c101, c102, c103, c104, c105, c106, c107, c108, c109, c110, c111, c112, c113, c114, c115, c116, c117, c118, c119, c120, c121, c122, c123, c124, c125, c126, c127, c128, c129, c130, c131, c132, c133, c134, c135, c136, c137, c138, c139, c140, c141, c142, c143, c144, c145, c146, c147, c148, c149], []⟩ w') :
    wpAnyD Try.prog .any ops10 Q (S10 ww nv0 sv0 lv0) [9, 16, 22] 14 #[true, true, true, true, true, true, true, true, true, false, true, true, true, true, true, false, false, true, true, true, true, false, false, false, false, false, false, false, false, false, false, false] ⟨#[c0, c1, c2, c3, c4, c5, c6, .pointer (some ⟨ww, 0, none⟩), c8, c9, c10, c11, c12, c13, c14, c15, c16, c17, c18, c19, c20, c21, c22, c23, c24, c25, c26, c27, .pointer (some ⟨ww, 0, none⟩), .pointer (some ⟨ww, 0, none⟩), .pointer (some ⟨ww, 0, none⟩), .pointer (some ⟨ww, 0, none⟩), .pointer (some ⟨ww, 0, none⟩), .pointer (some ⟨ww, 0, none⟩), nv0, .slice (some ⟨g1, 0, none⟩) 64 64, .slice (some ⟨h1, 0, none⟩) 1 1, c37, .pointer (some ⟨ww, 0, none⟩), .pointer (some ⟨ww, 0, none⟩), .pointer (some ⟨ww, 1, none⟩), sv0, .slice (some ⟨g2, 0, none⟩) 64 64, c43, c44, .pointer (some ⟨ww, 0, none⟩), .pointer (some ⟨ww, 0, none⟩), .pointer (some ⟨ww, 2, none⟩), lv0, c49, c50, c51, c52, c53, c54, c55, c56, c57, c58, c59, c60, c61, c62, c63, c64, c65, c66, c67, c68, c69, c70, c71, c72, c73, c74, c75, c76, c77, c78, c79, c80, c81, c82, c83, c84, c85, c86, c87, c88, c89, c90, c91, c92, c93, c94, c95, c96, c97, c98, c99, c100, c101, c102, c103, c104, c105, c106, c107, c108, c109, c110, c111, c112, c113, c114, c115, c116, c117, c118, c119, c120, c121, c122, c123, c124, c125, c126, c127, c128, c129, c130, c131, c132, c133, c134, c135, c136, c137, c138, c139, c140, c141, c142, c143, c144, c145, c146, c147, c148, c149], []⟩ w := by
  have hmk := run_make_z64
  refine wpAnyD_all (rs := [9, 15, 21]) (by kernel_rfl) (by simp) ?_
  intro i hi
  simp only [List.mem_cons, List.not_mem_nil, or_false] at hi
  rcases hi with rfl | rfl | rfl
  · skip
    obtain ⟨o, ho, hop, hd, hg⟩ := op10_9
    refine wpOp_step ho (fun K hK => ?_)
    rw [if_pos (by simp [Region.wanted, hg])]
    obtain ⟨cells, hc⟩ := h.rn
    refine wp_app_split (.tmp 34) (.tmp 36) 27 hop B 31 (.slice none 0 0) 24 Try.underlying27 info31 (by rfl) nv0 k cells (by rfl) hc.1 h1 0 1 (.slice (some ⟨g1, 0, none⟩) 64 64) (by rfl) ((h.a2 (by decide)).1.cell 0) (by rfl) (by unfold maxLen; omega) (by omega) h.lo ?_
    intro v' w' own gr sp
    have hb := h.s9 cells hc own gr sp
    refine hK _ _ ⟨fun _ => hb.cells10, ?_⟩
    rw [hd]
    go_simp
    exact st1_010 w1 _ B ww k g1 g2 h1 h2 h3 nv0 sv0 lv0 v' sv hk8 hBw hb hP hQ
  · skip
    obtain ⟨o, ho, hop, hd, hg⟩ := op10_15
    refine wpOp_step ho (fun K hK => ?_)
    rw [if_pos (by simp [Region.wanted, hg])]
    unfold Oper.wp
    simp only [execOp, hop]
    go_simp
    refine hK _ _ ⟨fun _ => h.s15.cells10, ?_⟩
    go_simp
    exact st0_220 w1 _ B ww k g1 g2 h1 w.heap.size h3 nv0 sv0 lv0 nv sv hk8 hBw h.s15 hP hQ
  · skip
    obtain ⟨o, ho, hop, hd, hg⟩ := op10_21
    refine wpOp_step ho (fun K hK => ?_)
    rw [if_pos (by simp [Region.wanted, hg])]
    unfold Oper.wp
    simp only [execOp, hop]
    go_simp
    refine hK _ _ ⟨fun _ => h.s21.cells10, ?_⟩
    go_simp
    exact st0_211 w1 _ B ww k g1 g2 h1 h2 w.heap.size nv0 sv0 lv0 nv sv hk8 hBw h.s21 hP hQ

set_option maxRecDepth 1000000 in
set_option maxHeartbeats 8000000 in
theorem st0_201 (w1 w : World) (B ww k g1 g2 h1 h2 h3 : Nat) (nv0 sv0 lv0 nv sv : Value) (hk8 : k ≤ 8) (hBw : B ≤ ww) (h : Build w1 w B ww nv0 sv0 lv0 nv0 sv0 lv0 k k k 2 0 1 (.slice (some ⟨g1, 0, none⟩) 64 64) (.slice (some ⟨g2, 0, none⟩) 64 64) h1 h2 h3)
    {Q : Exit → Act → World → Prop} (hP : ∀ c a b w, Q (.panic c) a w → Q (.panic c) b w) {c0 c1 c2 c3 c4 c5 c6 c8 c9 c10 c11 c12 c13 c14 c15 c16 c17 c18 c19 c20 c21 c22 c23 c24 c25 c26 c27 c37 c42 c43 c44 c50 c51 c52 c53 c54 c55 c56 c57 c58 c59 c60 c61 c62 c63 c64 c65 c66 c67 c68 c69 c70 c71 c72 c73 c74 c75 c76 c77 c78 c79 c80 c81 c82 c83 c84 c85 c86 c87 c88 c89 c90 c91 c92 c93 c94 c95 c96 c97 c98 c99 c100 c101 c102 c103 c104 c105 c106 c107 c108 c109 c110 c111 c112 c113 c114 c115 c116 c117 c118 c119 c120 c121 c122 c123 c124 c125 c126 c127 c128 c129 c130 c131 c132 c133 c134 c135 c136 c137 c138 c139 c140 c141 c142 c143 c144 c145 c146 c147 c148 c149 : Value}
    (hQ : ∀ (w' : World) (nv sv lv : Value) (u28 u29 u30 u31 u32 u33 u34 u35 u36 u37 u38 u39 u40 u41 u42 u43 u44 u45 u46 u47 u48 u49 u50 u51 u52 u53 u54 u55 u56 : Value), Fin_ w1 w' B ww nv sv lv (k + 1) → Q .normal ⟨#[c0, c1, c2, c3, c4, c5, c6, .pointer (some ⟨ww, 0, none⟩), c8, c9, c10, c11, c12, c13, c14, c15, c16, c17, c18, c19, c20, c21, c22, c23, c24, c25, c26, c27, u28, u29, u30, u31, u32, u33, u34, u35, u36, u37, u38, u39, u40, u41, u42, u43, u44, u45, u46, u47, u48, u49, u50, u51, u52, u53, u54, u55, u56, c57, c58, c59, c60, c61, c62, c63, c64, c65, c66, c67, c68, c69, c70, c71, c72, c73, c74, c75, c76, c77, c78, c79, c80, c81, c82, c83, c84, c85, c86, c87, c88, c89, c90, c91, c92, c93, c94, c95, c96, c97, c98, c99, c100, c101, c102, c103, c104, c105, c106, c107, c108, c109, c110, c111, c112, c113, c114, c115, c116, c117, c118, c119, c120, c121, c122, c123, c124, c125, c126, c127, c128, c129, c130, c131, c132, c133, c134, c135, c136, c137, c138, c139, c140, c141, c142, c143, c144, c145, c146, c147, c148, c149], []⟩ w') :
    wpAnyD Try.prog .any ops10 Q (S10 ww nv0 sv0 lv0) [9, 16, 22] 14 #[true, true, true, true, true, true, true, true, true, false, true, true, true, true, false, false, false, true, true, true, true, true, false, false, false, false, false, false, false, false, false, false] ⟨#[c0, c1, c2, c3, c4, c5, c6, .pointer (some ⟨ww, 0, none⟩), c8, c9, c10, c11, c12, c13, c14, c15, c16, c17, c18, c19, c20, c21, c22, c23, c24, c25, c26, c27, .pointer (some ⟨ww, 0, none⟩), .pointer (some ⟨ww, 0, none⟩), .pointer (some ⟨ww, 0, none⟩), .pointer (some ⟨ww, 0, none⟩), .pointer (some ⟨ww, 0, none⟩), .pointer (some ⟨ww, 0, none⟩), nv0, .slice (some ⟨g1, 0, none⟩) 64 64, .slice (some ⟨h1, 0, none⟩) 1 1, c37, .pointer (some ⟨ww, 0, none⟩), .pointer (some ⟨ww, 0, none⟩), .pointer (some ⟨ww, 1, none⟩), sv0, c42, c43, c44, .pointer (some ⟨ww, 0, none⟩), .pointer (some ⟨ww, 0, none⟩), .pointer (some ⟨ww, 2, none⟩), lv0, .slice (some ⟨h3, 0, none⟩) 1 1, c50, c51, c52, c53, c54, c55, c56, c57, c58, c59, c60, c61, c62, c63, c64, c65, c66, c67, c68, c69, c70, c71, c72, c73, c74, c75, c76, c77, c78, c79, c80, c81, c82, c83, c84, c85, c86, c87, c88, c89, c90, c91, c92, c93, c94, c95, c96, c97, c98, c99, c100, c101, c102, c103, c104, c105, c106, c107, c108, c109, c110, c111, c112, c113, c114, c115, c116, c117, c118, c119, c120, c121, c122, c123, c124, c125, c126, c127, c128, c129, c130, c131, c132, c133, c134, c135, c136, c137, c138, c139, c140, c141, c142, c143, c144, c145, c146, c147, c148, c149], []⟩ w := by
  have hmk := run_make_z64
  refine wpAnyD_all (rs := [9, 14]) (by kernel_rfl) (by simp) ?_
  intro i hi
  simp only [List.mem_cons, List.not_mem_nil, or_false] at hi
  rcases hi with rfl | rfl
  · skip
    obtain ⟨o, ho, hop, hd, hg⟩ := op10_9
    refine wpOp_step ho (fun K hK => ?_)
    rw [if_pos (by simp [Region.wanted, hg])]
    obtain ⟨cells, hc⟩ := h.rn
    refine wp_app_split (.tmp 34) (.tmp 36) 27 hop B 31 (.slice none 0 0) 24 Try.underlying27 info31 (by rfl) nv0 k cells (by rfl) hc.1 h1 0 1 (.slice (some ⟨g1, 0, none⟩) 64 64) (by rfl) ((h.a2 (by decide)).1.cell 0) (by rfl) (by unfold maxLen; omega) (by omega) h.lo ?_
    intro v' w' own gr sp
    have hb := h.s9 cells hc own gr sp
    refine hK _ _ ⟨fun _ => hb.cells10, ?_⟩
    rw [hd]
    go_simp
    exact st1_001 w1 _ B ww k g1 g2 h1 h2 h3 nv0 sv0 lv0 v' sv hk8 hBw hb hP hQ
  · skip
    obtain ⟨o, ho, hop, hd, hg⟩ := op10_14
    refine wpOp_step ho (fun K hK => ?_)
    rw [if_pos (by simp [Region.wanted, hg])]
    unfold Oper.wp
    simp only [execOp, hop]
    go_simp
    refine hK _ _ ⟨fun _ => h.s14.cells10, ?_⟩
    go_simp
    exact st0_211 w1 _ B ww k g1 w.heap.size h1 h2 h3 nv0 sv0 lv0 nv sv hk8 hBw h.s14 hP hQ

set_option maxRecDepth 1000000 in
set_option maxHeartbeats 8000000 in
theorem st0_200 (w1 w : World) (B ww k g1 g2 h1 h2 h3 : Nat) (nv0 sv0 lv0 nv sv : Value) (hk8 : k ≤ 8) (hBw : B ≤ ww) (h : Build w1 w B ww nv0 sv0 lv0 nv0 sv0 lv0 k k k 2 0 0 (.slice (some ⟨g1, 0, none⟩) 64 64) (.slice (some ⟨g2, 0, none⟩) 64 64) h1 h2 h3)
    {Q : Exit → Act → World → Prop} (hP : ∀ c a b w, Q (.panic c) a w → Q (.panic c) b w) {c0 c1 c2 c3 c4 c5 c6 c8 c9 c10 c11 c12 c13 c14 c15 c16 c17 c18 c19 c20 c21 c22 c23 c24 c25 c26 c27 c37 c42 c43 c44 c49 c50 c51 c52 c53 c54 c55 c56 c57 c58 c59 c60 c61 c62 c63 c64 c65 c66 c67 c68 c69 c70 c71 c72 c73 c74 c75 c76 c77 c78 c79 c80 c81 c82 c83 c84 c85 c86 c87 c88 c89 c90 c91 c92 c93 c94 c95 c96 c97 c98 c99 c100 c101 c102 c103 c104 c105 c106 c107 c108 c109 c110 c111 c112 c113 c114 c115 c116 c117 c118 c119 c120 c121 c122 c123 c124 c125 c126 c127 c128 c129 c130 c131 c132 c133 c134 c135 c136 c137 c138 c139 c140 c141 c142 c143 c144 c145 c146 c147 c148 c149 : Value}
    (hQ : ∀ (w' : World) (nv sv lv : Value) (u28 u29 u30 u31 u32 u33 u34 u35 u36 u37 u38 u39 u40 u41 u42 u43 u44 u45 u46 u47 u48 u49 u50 u51 u52 u53 u54 u55 u56 : Value), Fin_ w1 w' B ww nv sv lv (k + 1) → Q .normal ⟨#[c0, c1, c2, c3, c4, c5, c6, .pointer (some ⟨ww, 0, none⟩), c8, c9, c10, c11, c12, c13, c14, c15, c16, c17, c18, c19, c20, c21, c22, c23, c24, c25, c26, c27, u28, u29, u30, u31, u32, u33, u34, u35, u36, u37, u38, u39, u40, u41, u42, u43, u44, u45, u46, u47, u48, u49, u50, u51, u52, u53, u54, u55, u56, c57, c58, c59, c60, c61, c62, c63, c64, c65, c66, c67, c68, c69, c70, c71, c72, c73, c74, c75, c76, c77, c78, c79, c80, c81, c82, c83, c84, c85, c86, c87, c88, c89, c90, c91, c92, c93, c94, c95, c96, c97, c98, c99, c100, c101, c102, c103, c104, c105, c106, c107, c108, c109, c110, c111, c112, c113, c114, c115, c116, c117, c118, c119, c120, c121, c122, c123, c124, c125, c126, c127, c128, c129, c130, c131, c132, c133, c134, c135, c136, c137, c138, c139, c140, c141, c142, c143, c144, c145, c146, c147, c148, c149], []⟩ w') :
    wpAnyD Try.prog .any ops10 Q (S10 ww nv0 sv0 lv0) [9, 16, 22] 15 #[true, true, true, true, true, true, true, true, true, false, true, true, true, true, false, false, false, true, true, true, true, false, false, false, false, false, false, false, false, false, false, false] ⟨#[c0, c1, c2, c3, c4, c5, c6, .pointer (some ⟨ww, 0, none⟩), c8, c9, c10, c11, c12, c13, c14, c15, c16, c17, c18, c19, c20, c21, c22, c23, c24, c25, c26, c27, .pointer (some ⟨ww, 0, none⟩), .pointer (some ⟨ww, 0, none⟩), .pointer (some ⟨ww, 0, none⟩), .pointer (some ⟨ww, 0, none⟩), .pointer (some ⟨ww, 0, none⟩), .pointer (some ⟨ww, 0, none⟩), nv0, .slice (some ⟨g1, 0, none⟩) 64 64, .slice (some ⟨h1, 0, none⟩) 1 1, c37, .pointer (some ⟨ww, 0, none⟩), .pointer (some ⟨ww, 0, none⟩), .pointer (some ⟨ww, 1, none⟩), sv0, c42, c43, c44, .pointer (some ⟨ww, 0, none⟩), .pointer (some ⟨ww, 0, none⟩), .pointer (some ⟨ww, 2, none⟩), lv0, c49, c50, c51, c52, c53, c54, c55, c56, c57, c58, c59, c60, c61, c62, c63, c64, c65, c66, c67, c68, c69, c70, c71, c72, c73, c74, c75, c76, c77, c78, c79, c80, c81, c82, c83, c84, c85, c86, c87, c88, c89, c90, c91, c92, c93, c94, c95, c96, c97, c98, c99, c100, c101, c102, c103, c104, c105, c106, c107, c108, c109, c110, c111, c112, c113, c114, c115, c116, c117, c118, c119, c120, c121, c122, c123, c124, c125, c126, c127, c128, c129, c130, c131, c132, c133, c134, c135, c136, c137, c138, c139, c140, c141, c142, c143, c144, c145, c146, c147, c148, c149], []⟩ w := by
  have hmk := run_make_z64
  refine wpAnyD_all (rs := [9, 14, 21]) (by kernel_rfl) (by simp) ?_
  intro i hi
  simp only [List.mem_cons, List.not_mem_nil, or_false] at hi
  rcases hi with rfl | rfl | rfl
  · skip
    obtain ⟨o, ho, hop, hd, hg⟩ := op10_9
    refine wpOp_step ho (fun K hK => ?_)
    rw [if_pos (by simp [Region.wanted, hg])]
    obtain ⟨cells, hc⟩ := h.rn
    refine wp_app_split (.tmp 34) (.tmp 36) 27 hop B 31 (.slice none 0 0) 24 Try.underlying27 info31 (by rfl) nv0 k cells (by rfl) hc.1 h1 0 1 (.slice (some ⟨g1, 0, none⟩) 64 64) (by rfl) ((h.a2 (by decide)).1.cell 0) (by rfl) (by unfold maxLen; omega) (by omega) h.lo ?_
    intro v' w' own gr sp
    have hb := h.s9 cells hc own gr sp
    refine hK _ _ ⟨fun _ => hb.cells10, ?_⟩
    rw [hd]
    go_simp
    exact st1_000 w1 _ B ww k g1 g2 h1 h2 h3 nv0 sv0 lv0 v' sv hk8 hBw hb hP hQ
  · skip
    obtain ⟨o, ho, hop, hd, hg⟩ := op10_14
    refine wpOp_step ho (fun K hK => ?_)
    rw [if_pos (by simp [Region.wanted, hg])]
    unfold Oper.wp
    simp only [execOp, hop]
    go_simp
    refine hK _ _ ⟨fun _ => h.s14.cells10, ?_⟩
    go_simp
    exact st0_210 w1 _ B ww k g1 w.heap.size h1 h2 h3 nv0 sv0 lv0 nv sv hk8 hBw h.s14 hP hQ
  · skip
    obtain ⟨o, ho, hop, hd, hg⟩ := op10_21
    refine wpOp_step ho (fun K hK => ?_)
    rw [if_pos (by simp [Region.wanted, hg])]
    unfold Oper.wp
    simp only [execOp, hop]
    go_simp
    refine hK _ _ ⟨fun _ => h.s21.cells10, ?_⟩
    go_simp
    exact st0_201 w1 _ B ww k g1 g2 h1 h2 w.heap.size nv0 sv0 lv0 nv sv hk8 hBw h.s21 hP hQ

set_option maxRecDepth 1000000 in
set_option maxHeartbeats 8000000 in
theorem st0_121 (w1 w : World) (B ww k g1 g2 h1 h2 h3 : Nat) (nv0 sv0 lv0 nv sv : Value) (hk8 : k ≤ 8) (hBw : B ≤ ww) (h : Build w1 w B ww nv0 sv0 lv0 nv0 sv0 lv0 k k k 1 2 1 (.slice (some ⟨g1, 0, none⟩) 64 64) (.slice (some ⟨g2, 0, none⟩) 64 64) h1 h2 h3)
    {Q : Exit → Act → World → Prop} (hP : ∀ c a b w, Q (.panic c) a w → Q (.panic c) b w) {c0 c1 c2 c3 c4 c5 c6 c8 c9 c10 c11 c12 c13 c14 c15 c16 c17 c18 c19 c20 c21 c22 c23 c24 c25 c26 c27 c36 c37 c44 c50 c51 c52 c53 c54 c55 c56 c57 c58 c59 c60 c61 c62 c63 c64 c65 c66 c67 c68 c69 c70 c71 c72 c73 c74 c75 c76 c77 c78 c79 c80 c81 c82 c83 c84 c85 c86 c87 c88 c89 c90 c91 c92 c93 c94 c95 c96 c97 c98 c99 c100 c101 c102 c103 c104 c105 c106 c107 c108 c109 c110 c111 c112 c113 c114 c115 c116 c117 c118 c119 c120 c121 c122 c123 c124 c125 c126 c127 c128 c129 c130 c131 c132 c133 c134 c135 c136 c137 c138 c139 c140 c141 c142 c143 c144 c145 c146 c147 c148 c149 : Value}
    (hQ : ∀ (w' : World) (nv sv lv : Value) (u28 u29 u30 u31 u32 u33 u34 u35 u36 u37 u38 u39 u40 u41 u42 u43 u44 u45 u46 u47 u48 u49 u50 u51 u52 u53 u54 u55 u56 : Value), Fin_ w1 w' B ww nv sv lv (k + 1) → Q .normal ⟨#[c0, c1, c2, c3, c4, c5, c6, .pointer (some ⟨ww, 0, none⟩), c8, c9, c10, c11, c12, c13, c14, c15, c16, c17, c18, c19, c20, c21, c22, c23, c24, c25, c26, c27, u28, u29, u30, u31, u32, u33, u34, u35, u36, u37, u38, u39, u40, u41, u42, u43, u44, u45, u46, u47, u48, u49, u50, u51, u52, u53, u54, u55, u56, c57, c58, c59, c60, c61, c62, c63, c64, c65, c66, c67, c68, c69, c70, c71, c72, c73, c74, c75, c76, c77, c78, c79, c80, c81, c82, c83, c84, c85, c86, c87, c88, c89, c90, c91, c92, c93, c94, c95, c96, c97, c98, c99, c100, c101, c102, c103, c104, c105, c106, c107, c108, c109, c110, c111, c112, c113, c114, c115, c116, c117, c118, c119, c120, c121, c122, c123, c124, c125, c126, c127, c128, c129, c130, c131, c132, c133, c134, c135, c136, c137, c138, c139, c140, c141, c142, c143, c144, c145, c146, c147, c148, c149], []⟩ w') :
    wpAnyD Try.prog .any ops10 Q (S10 ww nv0 sv0 lv0) [9, 16, 22] 13 #[true, true, true, true, true, true, true, true, false, false, true, true, true, true, true, true, false, true, true, true, true, true, false, false, false, false, false, false, false, false, false, false] ⟨#[c0, c1, c2, c3, c4, c5, c6, .pointer (some ⟨ww, 0, none⟩), c8, c9, c10, c11, c12, c13, c14, c15, c16, c17, c18, c19, c20, c21, c22, c23, c24, c25, c26, c27, .pointer (some ⟨ww, 0, none⟩), .pointer (some ⟨ww, 0, none⟩), .pointer (some ⟨ww, 0, none⟩), .pointer (some ⟨ww, 0, none⟩), .pointer (some ⟨ww, 0, none⟩), .pointer (some ⟨ww, 0, none⟩), nv0, .slice (some ⟨g1, 0, none⟩) 64 64, c36, c37, .pointer (some ⟨ww, 0, none⟩), .pointer (some ⟨ww, 0, none⟩), .pointer (some ⟨ww, 1, none⟩), sv0, .slice (some ⟨g2, 0, none⟩) 64 64, .slice (some ⟨h2, 0, none⟩) 1 1, c44, .pointer (some ⟨ww, 0, none⟩), .pointer (some ⟨ww, 0, none⟩), .pointer (some ⟨ww, 2, none⟩), lv0, .slice (some ⟨h3, 0, none⟩) 1 1, c50, c51, c52, c53, c54, c55, c56, c57, c58, c59, c60, c61, c62, c63, c64, c65, c66, c67, c68, c69, c70, c71, c72, c73, c74, c75, c76, c77, c78, c79, c80, c81, c82, c83, c84, c85, c86, c87, c88, c89, c90, c91, c92, c93, c94, c95, c96, c97, c98, c99, c100, c101, c102, c103, c104, c105, c106, c107, c108, c109, c110, c111, c112, c113, c114, c115, c116, c117, c118, c119, c120, c121, c122, c123, c124, c125, c126, c127, c128, c129, c130, c131, c132, c133, c134, c135, c136, c137, c138, c139, c140, c141, c142, c143, c144, c145, c146, c147, c148, c149], []⟩ w := by
  have hmk := run_make_z64
  refine wpAnyD_all (rs := [8]) (by kernel_rfl) (by simp) ?_
  intro i hi
  simp only [List.mem_cons, List.not_mem_nil, or_false] at hi
  rcases hi with rfl
  · skip
    obtain ⟨o, ho, hop, hd, hg⟩ := op10_8
    refine wpOp_step ho (fun K hK => ?_)
    rw [if_pos (by simp [Region.wanted, hg])]
    unfold Oper.wp
    simp only [execOp, hop]
    go_simp
    refine hK _ _ ⟨fun _ => h.s8.cells10, ?_⟩
    go_simp
    exact st0_221 w1 _ B ww k g1 g2 w.heap.size h2 h3 nv0 sv0 lv0 nv sv hk8 hBw h.s8 hP hQ

set_option maxRecDepth 1000000 in
set_option maxHeartbeats 8000000 in
theorem st0_120 (w1 w : World) (B ww k g1 g2 h1 h2 h3 : Nat) (nv0 sv0 lv0 nv sv : Value) (hk8 : k ≤ 8) (hBw : B ≤ ww) (h : Build w1 w B ww nv0 sv0 lv0 nv0 sv0 lv0 k k k 1 2 0 (.slice (some ⟨g1, 0, none⟩) 64 64) (.slice (some ⟨g2, 0, none⟩) 64 64) h1 h2 h3)
    {Q : Exit → Act → World → Prop} (hP : ∀ c a b w, Q (.panic c) a w → Q (.panic c) b w) {c0 c1 c2 c3 c4 c5 c6 c8 c9 c10 c11 c12 c13 c14 c15 c16 c17 c18 c19 c20 c21 c22 c23 c24 c25 c26 c27 c36 c37 c44 c49 c50 c51 c52 c53 c54 c55 c56 c57 c58 c59 c60 c61 c62 c63 c64 c65 c66 c67 c68 c69 c70 c71 c72 c73 c74 c75 c76 c77 c78 c79 c80 c81 c82 c83 c84 c85 c86 c87 c88 c89 c90 c91 c92 c93 c94 c95 c96 c97 c98 c99 c100 c101 c102 c103 c104 c105 c106 c107 c108 c109 c110 c111 c112 c113 c114 c115 c116 c117 c118 c119 c120 c121 c122 c123 c124 c125 c126 c127 c128 c129 c130 c131 c132 c133 c134 c135 c136 c137 c138 c139 c140 c141 c142 c143 c144 c145 c146 c147 c148 c149 : Value}
    (hQ : ∀ (w' : World) (nv sv lv : Value) (u28 u29 u30 u31 u32 u33 u34 u35 u36 u37 u38 u39 u40 u41 u42 u43 u44 u45 u46 u47 u48 u49 u50 u51 u52 u53 u54 u55 u56 : Value), Fin_ w1 w' B ww nv sv lv (k + 1) → Q .normal ⟨#[c0, c1, c2, c3, c4, c5, c6, .pointer (some ⟨ww, 0, none⟩), c8, c9, c10, c11, c12, c13, c14, c15, c16, c17, c18, c19, c20, c21, c22, c23, c24, c25, c26, c27, u28, u29, u30, u31, u32, u33, u34, u35, u36, u37, u38, u39, u40, u41, u42, u43, u44, u45, u46, u47, u48, u49, u50, u51, u52, u53, u54, u55, u56, c57, c58, c59, c60, c61, c62, c63, c64, c65, c66, c67, c68, c69, c70, c71, c72, c73, c74, c75, c76, c77, c78, c79, c80, c81, c82, c83, c84, c85, c86, c87, c88, c89, c90, c91, c92, c93, c94, c95, c96, c97, c98, c99, c100, c101, c102, c103, c104, c105, c106, c107, c108, c109, c110, c111, c112, c113, c114, c115, c116, c117, c118, c119, c120, c121, c122, c123, c124, c125, c126, c127, c128, c129, c130, c131, c132, c133, c134, c135, c136, c137, c138, c139, c140, c141, c142, c143, c144, c145, c146, c147, c148, c149], []⟩ w') :
    wpAnyD Try.prog .any ops10 Q (S10 ww nv0 sv0 lv0) [9, 16, 22] 14 #[true, true, true, true, true, true, true, true, false, false, true, true, true, true, true, true, false, true, true, true, true, false, false, false, false, false, false, false, false, false, false, false] ⟨#[c0, c1, c2, c3, c4, c5, c6, .pointer (some ⟨ww, 0, none⟩), c8, c9, c10, c11, c12, c13, c14, c15, c16, c17, c18, c19, c20, c21, c22, c23, c24, c25, c26, c27, .pointer (some ⟨ww, 0, none⟩), .pointer (some ⟨ww, 0, none⟩), .pointer (some ⟨ww, 0, none⟩), .pointer (some ⟨ww, 0, none⟩), .pointer (some ⟨ww, 0, none⟩), .pointer (some ⟨ww, 0, none⟩), nv0, .slice (some ⟨g1, 0, none⟩) 64 64, c36, c37, .pointer (some ⟨ww, 0, none⟩), .pointer (some ⟨ww, 0, none⟩), .pointer (some ⟨ww, 1, none⟩), sv0, .slice (some ⟨g2, 0, none⟩) 64 64, .slice (some ⟨h2, 0, none⟩) 1 1, c44, .pointer (some ⟨ww, 0, none⟩), .pointer (some ⟨ww, 0, none⟩), .pointer (some ⟨ww, 2, none⟩), lv0, c49, c50, c51, c52, c53, c54, c55, c56, c57, c58, c59, c60, c61, c62, c63, c64, c65, c66, c67, c68, c69, c70, c71, c72, c73, c74, c75, c76, c77, c78, c79, c80, c81, c82, c83, c84, c85, c86, c87, c88, c89, c90, c91, c92, c93, c94, c95, c96, c97, c98, c99, c100, c101, c102, c103, c104, c105, c106, c107, c108, c109, c110, c111, c112, c113, c114, c115, c116, c117, c118, c119, c120, c121, c122, c123, c124, c125, c126, c127, c128, c129, c130, c131, c132, c133, c134, c135, c136, c137, c138, c139, c140, c141, c142, c143, c144, c145, c146, c147, c148, c149], []⟩ w := by
  have hmk := run_make_z64
  refine wpAnyD_all (rs := [8, 21]) (by kernel_rfl) (by simp) ?_
  intro i hi
  simp only [List.mem_cons, List.not_mem_nil, or_false] at hi
  rcases hi with rfl | rfl
  · skip
    obtain ⟨o, ho, hop, hd, hg⟩ := op10_8
    refine wpOp_step ho (fun K hK => ?_)
    rw [if_pos (by simp [Region.wanted, hg])]
    unfold Oper.wp
    simp only [execOp, hop]
    go_simp
    refine hK _ _ ⟨fun _ => h.s8.cells10, ?_⟩
    go_simp
    exact st0_220 w1 _ B ww k g1 g2 w.heap.size h2 h3 nv0 sv0 lv0 nv sv hk8 hBw h.s8 hP hQ
  · skip
    obtain ⟨o, ho, hop, hd, hg⟩ := op10_21
    refine wpOp_step ho (fun K hK => ?_)
    rw [if_pos (by simp [Region.wanted, hg])]
    unfold Oper.wp
    simp only [execOp, hop]
    go_simp
    refine hK _ _ ⟨fun _ => h.s21.cells10, ?_⟩
    go_simp
    exact st0_121 w1 _ B ww k g1 g2 h1 h2 w.heap.size nv0 sv0 lv0 nv sv hk8 hBw h.s21 hP hQ

set_option maxRecDepth 1000000 in
set_option maxHeartbeats 8000000 in
theorem st0_111 (w1 w : World) (B ww k g1 g2 h1 h2 h3 : Nat) (nv0 sv0 lv0 nv sv : Value) (hk8 : k ≤ 8) (hBw : B ≤ ww) (h : Build w1 w B ww nv0 sv0 lv0 nv0 sv0 lv0 k k k 1 1 1 (.slice (some ⟨g1, 0, none⟩) 64 64) (.slice (some ⟨g2, 0, none⟩) 64 64) h1 h2 h3)
    {Q : Exit → Act → World → Prop} (hP : ∀ c a b w, Q (.panic c) a w → Q (.panic c) b w) {c0 c1 c2 c3 c4 c5 c6 c8 c9 c10 c11 c12 c13 c14 c15 c16 c17 c18 c19 c20 c21 c22 c23 c24 c25 c26 c27 c36 c37 c43 c44 c50 c51 c52 c53 c54 c55 c56 c57 c58 c59 c60 c61 c62 c63 c64 c65 c66 c67 c68 c69 c70 c71 c72 c73 c74 c75 c76 c77 c78 c79 c80 c81 c82 c83 c84 c85 c86 c87 c88 c89 c90 c91 c92 c93 c94 c95 c96 c97 c98 c99 c100 c101 c102 c103 c104 c105 c106 c107 c108 c109 c110 c111 c112 c113 c114 c115 c116 c117 c118 c119 c120 c121 c122 c123 c124 c125 c126 c127 c128 c129 c130 c131 c132 c133 c134 c135 c136 c137 c138 c139 c140 c141 c142 c143 c144 c145 c146 c147 c148 c149 : Value}
    (hQ : ∀ (w' : World) (nv sv lv : Value) (u28 u29 u30 u31 u32 u33 u34 u35 u36 u37 u38 u39 u40 u41 u42 u43 u44 u45 u46 u47 u48 u49 u50 u51 u52 u53 u54 u55 u56 : Value), Fin_ w1 w' B ww nv sv lv (k + 1) → Q .normal ⟨#[c0, c1, c2, c3, c4, c5, c6, .pointer (some ⟨ww, 0, none⟩), c8, c9, c10, c11, c12, c13, c14, c15, c16, c17, c18, c19, c20, c21, c22, c23, c24, c25, c26, c27, u28, u29, u30, u31, u32, u33, u34, u35, u36, u37, u38, u39, u40, u41, u42, u43, u44, u45, u46, u47, u48, u49, u50, u51, u52, u53, u54, u55, u56, c57, c58, c59, c60, c61, c62, c63, c64, c65, c66, c67, c68, c69, c70, c71, c72, c73, c74, c75, c76, c77, c78, c79, c80, c81, c82, c83, c84, c85, c86, c87, c88, c89, c90, c91, c92, c93, c94, c95, c96, c97, c98, c99, c100, c101, c102, c103, c104, c105, c106, c107, c108, c109, c110, c111, c112, c113, c114, c115, c116, c117, c118, c119, c120, c121, c122, c123, c124, c125, c126, c127, c128, c129, c130, c131, c132, c133, c134, c135, c136, c137, c138, c139, c140, c141, c142, c143, c144, c145, c146, c147, c148, c149], []⟩ w') :
    wpAnyD Try.prog .any ops10 Q (S10 ww nv0 sv0 lv0) [9, 16, 22] 14 #[true, true, true, true, true, true, true, true, false, false, true, true, true, true, true, false, false, true, true, true, true, true, false, false, false, false, false, false, false, false, false, false] ⟨#[c0, c1, c2, c3, c4, c5, c6, .pointer (some ⟨ww, 0, none⟩), c8, c9, c10, c11, c12, c13, c14, c15, c16, c17, c18, c19, c20, c21, c22, c23, c24, c25, c26, c27, .pointer (some ⟨ww, 0, none⟩), .pointer (some ⟨ww, 0, none⟩), .pointer (some ⟨ww, 0, none⟩), .pointer (some ⟨ww, 0, none⟩), .pointer (some ⟨ww, 0, none⟩), .pointer (some ⟨ww, 0, none⟩), nv0, .slice (some ⟨g1, 0, none⟩) 64 64, c36, c37, .pointer (some ⟨ww, 0, none⟩), .pointer (some ⟨ww, 0, none⟩), .pointer (some ⟨ww, 1, none⟩), sv0, .slice (some ⟨g2, 0, none⟩) 64 64, c43, c44, .pointer (some ⟨ww, 0, none⟩), .pointer (some ⟨ww, 0, none⟩), .pointer (some ⟨ww, 2, none⟩), lv0, .slice (some ⟨h3, 0, none⟩) 1 1, c50, c51, c52, c53, c54, c55, c56, c57, c58, c59, c60, c61, c62, c63, c64, c65, c66, c67, c68, c69, c70, c71, c72, c73, c74, c75, c76, c77, c78, c79, c80, c81, c82, c83, c84, c85, c86, c87, c88, c89, c90, c91, c92, c93, c94, c95, c96, c97, c98, c99, c100, c101, c102, c103, c104, c105, c106, c107, c108, c109, c110, c111, c112, c113, c114, c115, c116, c117, c118, c119, c120, c121, c122, c123, c124, c125, c126, c127, c128, c129, c130, c131, c132, c133, c134, c135, c136, c137, c138, c139, c140, c141, c142, c143, c144, c145, c146, c147, c148, c149], []⟩ w := by
  have hmk := run_make_z64
  refine wpAnyD_all (rs := [8, 15]) (by kernel_rfl) (by simp) ?_
  intro i hi
  simp only [List.mem_cons, List.not_mem_nil, or_false] at hi
  rcases hi with rfl | rfl
  · skip
    obtain ⟨o, ho, hop, hd, hg⟩ := op10_8
    refine wpOp_step ho (fun K hK => ?_)
    rw [if_pos (by simp [Region.wanted, hg])]
    unfold Oper.wp
    simp only [execOp, hop]
    go_simp
    refine hK _ _ ⟨fun _ => h.s8.cells10, ?_⟩
    go_simp
    exact st0_211 w1 _ B ww k g1 g2 w.heap.size h2 h3 nv0 sv0 lv0 nv sv hk8 hBw h.s8 hP hQ
  · skip
    obtain ⟨o, ho, hop, hd, hg⟩ := op10_15
    refine wpOp_step ho (fun K hK => ?_)
    rw [if_pos (by simp [Region.wanted, hg])]
    unfold Oper.wp
    simp only [execOp, hop]
    go_simp
    refine hK _ _ ⟨fun _ => h.s15.cells10, ?_⟩
    go_simp
    exact st0_121 w1 _ B ww k g1 g2 h1 w.heap.size h3 nv0 sv0 lv0 nv sv hk8 hBw h.s15 hP hQ

set_option maxRecDepth 1000000 in
set_option maxHeartbeats 8000000 in
theorem st0_110 (w1 w : World) (B ww k g1 g2 h1 h2 h3 : Nat) (nv0 sv0 lv0 nv sv : Value) (hk8 : k ≤ 8) (hBw : B ≤ ww) (h : Build w1 w B ww nv0 sv0 lv0 nv0 sv0 lv0 k k k 1 1 0 (.slice (some ⟨g1, 0, none⟩) 64 64) (.slice (some ⟨g2, 0, none⟩) 64 64) h1 h2 h3)
    {Q : Exit → Act → World → Prop} (hP : ∀ c a b w, Q (.panic c) a w → Q (.panic c) b w) {c0 c1 c2 c3 c4 c5 c6 c8 c9 c10 c11 c12 c13 c14 c15 c16 c17 c18 c19 c20 c21 c22 c23 c24 c25 c26 c27 c36 c37 c43 c44 c49 c50 c51 c52 c53 c54 c55 c56 c57 c58 c59 c60 c61 c62 c63 c64 c65 c66 c67 c68 c69 c70 c71 c72 c73 c74 c75 c76 c77 c78 c79 c80 c81 c82 c83 c84 c85 c86 c87 c88 c89 c90 c91 c92 c93 c94 c95 c96 c97 c98 c99 c100 c101 c102 c103 c104 c105 c106 c107 c108 c109 c110 c111 c112 c113 c114 c115 c116 c117 c118 c119 c120 c121 c122 c123 c124 c125 c126 c127 c128 c129 c130 c131 c132 c133 c134 c135 c136 c137 c138 c139 c140 c141 c142 c143 c144 c145 c146 c147 c148 c149 : Value}
    (hQ : ∀ (w' : World) (nv sv lv : Value) (u28 u29 u30 u31 u32 u33 u34 u35 u36 u37 u38 u39 u40 u41 u42 u43 u44 u45 u46 u47 u48 u49 u50 u51 u52 u53 u54 u55 u56 : Value), Fin_ w1 w' B ww nv sv lv (k + 1) → Q .normal ⟨#[c0, c1, c2, c3, c4, c5, c6, .pointer (some ⟨ww, 0, none⟩), c8, c9, c10, c11, c12, c13, c14, c15, c16, c17, c18, c19, c20, c21, c22, c23, c24, c25, c26, c27, u28, u29, u30, u31, u32, u33, u34, u35, u36, u37, u38, u39, u40, u41, u42, u43, u44, u45, u46, u47, u48, u49, u50, u51, u52, u53, u54, u55, u56, c57, c58, c59, c60, c61, c62, c63, c64, c65, c66, c67, c68, c69, c70, c71, c72, c73, c74, c75, c76, c77, c78, c79, c80, c81, c82, c83, c84, c85, c86, c87, c88, c89, c90, c91, c92, c93, c94, c95, c96, c97, c98, c99, c100, c101, c102, c103, c104, c105, c106, c107, c108, c109, c110, c111, c112, c113, c114, c115, c116, c117, c118, c119, c120, c121, c122, c123, c124, c125, c126, c127, c128, c129, c130, c131, c132, c133, c134, c135, c136, c137, c138, c139, c140, c141, c142, c143, c144, c145, c146, c147, c148, c149], []⟩ w') :
    wpAnyD Try.prog .any ops10 Q (S10 ww nv0 sv0 lv0) [9, 16, 22] 15 #[true, true, true, true, true, true, true, true, false, false, true, true, true, true, true, false, false, true, true, true, true, false, false, false, false, false, false, false, false, false, false, false] ⟨#[c0, c1, c2, c3, c4, c5, c6, .pointer (some ⟨ww, 0, none⟩), c8, c9, c10, c11, c12, c13, c14, c15, c16, c17, c18, c19, c20, c21, c22, c23, c24, c25, c26, c27, .pointer (some ⟨ww, 0, none⟩), .pointer (some ⟨ww, 0, none⟩), .pointer (some ⟨ww, 0, none⟩), .pointer (some ⟨ww, 0, none⟩), .pointer (some ⟨ww, 0, none⟩), .pointer (some ⟨ww, 0, none⟩), nv0, .slice (some ⟨g1, 0, none⟩) 64 64, c36, c37, .pointer (some ⟨ww, 0, none⟩), .pointer (some ⟨ww, 0, none⟩), .pointer (some ⟨ww, 1, none⟩), sv0, .slice (some ⟨g2, 0, none⟩) 64 64, c43, c44, .pointer (some ⟨ww, 0, none⟩), .pointer (some ⟨ww, 0, none⟩), .pointer (some ⟨ww, 2, none⟩), lv0, c49, c50, c51, c52, c53, c54, c55, c56, c57, c58, c59, c60, c61, c62, c63, c64, c65, c66, c67, c68, c69, c70, c71, c72, c73, c74, c75, c76, c77, c78, c79, c80, c81, c82, c83, c84, c85, c86, c87, c88, c89, c90, c91, c92, c93, c94, c95, c96, c97, c98, c99, c100, c101, c102, c103, c104, c105, c106, c107, c108, c109, c110, c111, c112, c113, c114, c115, c116, c117, c118, c119, c120, c121, c122, c123, c124, c125, c126, c127, c128, c129, c130, c131, c132, c133, c134, c135, c136, c137, c138, c139, c140, c141, c142, c143, c144, c145, c146, c147, c148, c149], []⟩ w := by
  have hmk := run_make_z64
  refine wpAnyD_all (rs := [8, 15, 21]) (by kernel_rfl) (by simp) ?_
  intro i hi
  simp only [List.mem_cons, List.not_mem_nil, or_false] at hi
  rcases hi with rfl | rfl | rfl
  · skip
    obtain ⟨o, ho, hop, hd, hg⟩ := op10_8
    refine wpOp_step ho (fun K hK => ?_)
    rw [if_pos (by simp [Region.wanted, hg])]
    unfold Oper.wp
    simp only [execOp, hop]
    go_simp
    refine hK _ _ ⟨fun _ => h.s8.cells10, ?_⟩
    go_simp
    exact st0_210 w1 _ B ww k g1 g2 w.heap.size h2 h3 nv0 sv0 lv0 nv sv hk8 hBw h.s8 hP hQ
  · skip
    obtain ⟨o, ho, hop, hd, hg⟩ := op10_15
    refine wpOp_step ho (fun K hK => ?_)
    rw [if_pos (by simp [Region.wanted, hg])]
    unfold Oper.wp
    simp only [execOp, hop]
    go_simp
    refine hK _ _ ⟨fun _ => h.s15.cells10, ?_⟩
    go_simp
    exact st0_120 w1 _ B ww k g1 g2 h1 w.heap.size h3 nv0 sv0 lv0 nv sv hk8 hBw h.s15 hP hQ
  · skip
    obtain ⟨o, ho, hop, hd, hg⟩ := op10_21
    refine wpOp_step ho (fun K hK => ?_)
    rw [if_pos (by simp [Region.wanted, hg])]
    unfold Oper.wp
    simp only [execOp, hop]
    go_simp
    refine hK _ _ ⟨fun _ => h.s21.cells10, ?_⟩
    go_simp
    exact st0_111 w1 _ B ww k g1 g2 h1 h2 w.heap.size nv0 sv0 lv0 nv sv hk8 hBw h.s21 hP hQ

set_option maxRecDepth 1000000 in
set_option maxHeartbeats 8000000 in
theorem st0_101 (w1 w : World) (B ww k g1 g2 h1 h2 h3 : Nat) (nv0 sv0 lv0 nv sv : Value) (hk8 : k ≤ 8) (hBw : B ≤ ww) (h : Build w1 w B ww nv0 sv0 lv0 nv0 sv0 lv0 k k k 1 0 1 (.slice (some ⟨g1, 0, none⟩) 64 64) (.slice (some ⟨g2, 0, none⟩) 64 64) h1 h2 h3)
    {Q : Exit → Act → World → Prop} (hP : ∀ c a b w, Q (.panic c) a w → Q (.panic c) b w) {c0 c1 c2 c3 c4 c5 c6 c8 c9 c10 c11 c12 c13 c14 c15 c16 c17 c18 c19 c20 c21 c22 c23 c24 c25 c26 c27 c36 c37 c42 c43 c44 c50 c51 c52 c53 c54 c55 c56 c57 c58 c59 c60 c61 c62 c63 c64 c65 c66 c67 c68 c69 c70 c71 c72 c73 c74 c75 c76 c77 c78 c79 c80 c81 c82 c83 c84 c85 c86 c87 c88 c89 c90 c91 c92 c93 c94 c95 c96 c97 c98 c99 c100 c101 c102 c103 c104 c105 c106 c107 c108 c109 c110 c111 c112 c113 c114 c115 c116 c117 c118 c119 c120 c121 c122 c123 c124 c125 c126 c127 c128 c129 c130 c131 c132 c133 c134 c135 c136 c137 c138 c139 c140 c141 c142 c143 c144 c145 c146 c147 c148 c149 : Value}
    (hQ : ∀ (w' : World) (nv sv lv : Value) (u28 u29 u30 u31 u32 u33 u34 u35 u36 u37 u38 u39 u40 u41 u42 u43 u44 u45 u46 u47 u48 u49 u50 u51 u52 u53 u54 u55 u56 : Value), Fin_ w1 w' B ww nv sv lv (k + 1) → Q .normal ⟨#[c0, c1, c2, c3, c4, c5, c6, .pointer (some ⟨ww, 0, none⟩), c8, c9, c10, c11, c12, c13, c14, c15, c16, c17, c18, c19, c20, c21, c22, c23, c24, c25, c26, c27, u28, u29, u30, u31, u32, u33, u34, u35, u36, u37, u38, u39, u40, u41, u42, u43, u44, u45, u46, u47, u48, u49, u50, u51, u52, u53, u54, u55, u56, c57, c58, c59, c60, c61, c62, c63, c64, c65, c66, c67, c68, c69, c70, c71, c72, c73, c74, c75, c76, c77, c78, c79, c80, c81, c82, c83, c84, c85, c86, c87, c88, c89, c90, c91, c92, c93, c94, c95, c96, c97, c98, c99, c100, c101, c102, c103, c104, c105, c106, c107, c108, c109, c110, c111, c112, c113, c114, c115, c116, c117, c118, c119, c120, c121, c122, c123, c124, c125, c126, c127, c128, c129, c130, c131, c132, c133, c134, c135, c136, c137, c138, c139, c140, c141, c142, c143, c144, c145, c146, c147, c148, c149], []⟩ w') :
    wpAnyD Try.prog .any ops10 Q (S10 ww nv0 sv0 lv0) [9, 16, 22] 15 #[true, true, true, true, true, true, true, true, false, false, true, true, true, true, false, false, false, true, true, true, true, true, false, false, false, false, false, false, false, false, false, false] ⟨#[c0, c1, c2, c3, c4, c5, c6, .pointer (some ⟨ww, 0, none⟩), c8, c9, c10, c11, c12, c13, c14, c15, c16, c17, c18, c19, c20, c21, c22, c23, c24, c25, c26, c27, .pointer (some ⟨ww, 0, none⟩), .pointer (some ⟨ww, 0, none⟩), .pointer (some ⟨ww, 0, none⟩), .pointer (some ⟨ww, 0, none⟩), .pointer (some ⟨ww, 0, none⟩), .pointer (some ⟨ww, 0, none⟩), nv0, .slice (some ⟨g1, 0, none⟩) 64 64, c36, c37, .pointer (some ⟨ww, 0, none⟩), .pointer (some ⟨ww, 0, none⟩), .pointer (some ⟨ww, 1, none⟩), sv0, c42, c43, c44, .pointer (some ⟨ww, 0, none⟩), .pointer (some ⟨ww, 0, none⟩), .pointer (some ⟨ww, 2, none⟩), lv0, .slice (some ⟨h3, 0, none⟩) 1 1, c50, c51, c52, c53, c54, c55, c56, c57, c58, c59, c60, c61, c62, c63, c64, c65, c66, c67, c68, c69, c70, c71, c72, c73, c74, c75, c76, c77, c78, c79, c80, c81, c82, c83, c84, c85, c86, c87, c88, c89, c90, c91, c92, c93, c94, c95, c96, c97, c98, c99, c100, c101, c102, c103, c104, c105, c106, c107, c108, c109, c110, c111, c112, c113, c114, c115, c116, c117, c118, c119, c120, c121, c122, c123, c124, c125, c126, c127, c128, c129, c130, c131, c132, c133, c134, c135, c136, c137, c138, c139, c140, c141, c142, c143, c144, c145, c146, c147, c148, c149], []⟩ w := by
  have hmk := run_make_z64
  refine wpAnyD_all (rs := [8, 14]) (by kernel_rfl) (by simp) ?_
  intro i hi
  simp only [List.mem_cons, List.not_mem_nil, or_false] at hi
  rcases hi with rfl | rfl
  · skip
    obtain ⟨o, ho, hop, hd, hg⟩ := op10_8
    refine wpOp_step ho (fun K hK => ?_)
    rw [if_pos (by simp [Region.wanted, hg])]
    unfold Oper.wp
    simp only [execOp, hop]
    go_simp
    refine hK _ _ ⟨fun _ => h.s8.cells10, ?_⟩
    go_simp
    exact st0_201 w1 _ B ww k g1 g2 w.heap.size h2 h3 nv0 sv0 lv0 nv sv hk8 hBw h.s8 hP hQ
  · skip
    obtain ⟨o, ho, hop, hd, hg⟩ := op10_14
    refine wpOp_step ho (fun K hK => ?_)
    rw [if_pos (by simp [Region.wanted, hg])]
    unfold Oper.wp
    simp only [execOp, hop]
    go_simp
    refine hK _ _ ⟨fun _ => h.s14.cells10, ?_⟩
    go_simp
    exact st0_111 w1 _ B ww k g1 w.heap.size h1 h2 h3 nv0 sv0 lv0 nv sv hk8 hBw h.s14 hP hQ

set_option maxRecDepth 1000000 in
set_option maxHeartbeats 8000000 in
theorem st0_100 (w1 w : World) (B ww k g1 g2 h1 h2 h3 : Nat) (nv0 sv0 lv0 nv sv : Value) (hk8 : k ≤ 8) (hBw : B ≤ ww) (h : Build w1 w B ww nv0 sv0 lv0 nv0 sv0 lv0 k k k 1 0 0 (.slice (some ⟨g1, 0, none⟩) 64 64) (.slice (some ⟨g2, 0, none⟩) 64 64) h1 h2 h3)
    {Q : Exit → Act → World → Prop} (hP : ∀ c a b w, Q (.panic c) a w → Q (.panic c) b w) {c0 c1 c2 c3 c4 c5 c6 c8 c9 c10 c11 c12 c13 c14 c15 c16 c17 c18 c19 c20 c21 c22 c23 c24 c25 c26 c27 c36 c37 c42 c43 c44 c49 c50 c51 c52 c53 c54 c55 c56 c57 c58 c59 c60 c61 c62 c63 c64 c65 c66 c67 c68 c69 c70 c71 c72 c73 c74 c75 c76 c77 c78 c79 c80 c81 c82 c83 c84 c85 c86 c87 c88 c89 c90 c91 c92 c93 c94 c95 c96 c97 c98 c99 c100 c101 c102 c103 c104 c105 c106 c107 c108 c109 c110 c111 c112 c113 c114 c115 c116 c117 c118 c119 c120 c121 c122 c123 c124 c125 c126 c127 c128 c129 c130 c131 c132 c133 c134 c135 c136 c137 c138 c139 c140 c141 c142 c143 c144 c145 c146 c147 c148 c149 : Value}
    (hQ : ∀ (w' : World) (nv sv lv : Value) (u28 u29 u30 u31 u32 u33 u34 u35 u36 u37 u38 u39 u40 u41 u42 u43 u44 u45 u46 u47 u48 u49 u50 u51 u52 u53 u54 u55 u56 : Value), Fin_ w1 w' B ww nv sv lv (k + 1) → Q .normal ⟨#[c0, c1, c2, c3, c4, c5, c6, .pointer (some ⟨ww, 0, none⟩), c8, c9, c10, c11, c12, c13, c14, c15, c16, c17, c18, c19, c20, c21, c22, c23, c24, c25, c26, c27, u28, u29, u30, u31, u32, u33, u34, u35, u36, u37, u38, u39, u40, u41, u42, u43, u44, u45, u46, u47, u48, u49, u50, u51, u52, u53, u54, u55, u56, c57, c58, c59, c60, c61, c62, c63, c64, c65, c66, c67, c68, c69, c70, c71, c72, c73, c74, c75, c76, c77, c78, c79, c80, c81, c82, c83, c84, c85, c86, c87, c88, c89, c90, c91, c92, c93, c94, c95, c96, c97, c98, c99, c100, c101, c102, c103, c104, c105, c106, c107, c108, c109, c110, c111, c112, c113, c114, c115, c116, c117, c118, c119, c120, c121, c122, c123, c124, c125, c126, c127, c128, c129, c130, c131, c132, c133, c134, c135, c136, c137, c138, c139, c140, c141, c142, c143, c144, c145, c146, c147, c148, c149], []⟩ w') :
    wpAnyD Try.prog .any ops10 Q (S10 ww nv0 sv0 lv0) [9, 16, 22] 16 #[true, true, true, true, true, true, true, true, false, false, true, true, true, true, false, false, false, true, true, true, true, false, false, false, false, false, false, false, false, false, false, false] ⟨#[c0, c1, c2, c3, c4, c5, c6, .pointer (some ⟨ww, 0, none⟩), c8, c9, c10, c11, c12, c13, c14, c15, c16, c17, c18, c19, c20, c21, c22, c23, c24, c25, c26, c27, .pointer (some ⟨ww, 0, none⟩), .pointer (some ⟨ww, 0, none⟩), .pointer (some ⟨ww, 0, none⟩), .pointer (some ⟨ww, 0, none⟩), .pointer (some ⟨ww, 0, none⟩), .pointer (some ⟨ww, 0, none⟩), nv0, .slice (some ⟨g1, 0, none⟩) 64 64, c36, c37, .pointer (some ⟨ww, 0, none⟩), .pointer (some ⟨ww, 0, none⟩), .pointer (some ⟨ww, 1, none⟩), sv0, c42, c43, c44, .pointer (some ⟨ww, 0, none⟩), .pointer (some ⟨ww, 0, none⟩), .pointer (some ⟨ww, 2, none⟩), lv0, c49, c50, c51, c52, c53, c54, c55, c56, c57, c58, c59, c60, c61, c62, c63, c64, c65, c66, c67, c68, c69, c70, c71, c72, c73, c74, c75, c76, c77, c78, c79, c80, c81, c82, c83, c84, c85, c86, c87, c88, c89, c90, c91, c92, c93, c94, c95, c96, c97, c98, c99, c100, c101, c102, c103, c104, c105, c106, c107, c108, c109, c110, c111, c112, c113, c114, c115, c116, c117, c118, c119, c120, c121, c122, c123, c124, c125, c126, c127, c128, c129, c130, c131, c132, c133, c134, c135, c136, c137, c138, c139, c140, c141, c142, c143, c144, c145, c146, c147, c148, c149], []⟩ w := by
  have hmk := run_make_z64
  refine wpAnyD_all (rs := [8, 14, 21]) (by kernel_rfl) (by simp) ?_
  intro i hi
  simp only [List.mem_cons, List.not_mem_nil, or_false] at hi
  rcases hi with rfl | rfl | rfl
  · skip
    obtain ⟨o, ho, hop, hd, hg⟩ := op10_8
    refine wpOp_step ho (fun K hK => ?_)
    rw [if_pos (by simp [Region.wanted, hg])]
    unfold Oper.wp
    simp only [execOp, hop]
    go_simp
    refine hK _ _ ⟨fun _ => h.s8.cells10, ?_⟩
    go_simp
    exact st0_200 w1 _ B ww k g1 g2 w.heap.size h2 h3 nv0 sv0 lv0 nv sv hk8 hBw h.s8 hP hQ
  · skip
    obtain ⟨o, ho, hop, hd, hg⟩ := op10_14
    refine wpOp_step ho (fun K hK => ?_)
    rw [if_pos (by simp [Region.wanted, hg])]
    unfold Oper.wp
    simp only [execOp, hop]
    go_simp
    refine hK _ _ ⟨fun _ => h.s14.cells10, ?_⟩
    go_simp
    exact st0_110 w1 _ B ww k g1 w.heap.size h1 h2 h3 nv0 sv0 lv0 nv sv hk8 hBw h.s14 hP hQ
  · skip
    obtain ⟨o, ho, hop, hd, hg⟩ := op10_21
    refine wpOp_step ho (fun K hK => ?_)
    rw [if_pos (by simp [Region.wanted, hg])]
    unfold Oper.wp
    simp only [execOp, hop]
    go_simp
    refine hK _ _ ⟨fun _ => h.s21.cells10, ?_⟩
    go_simp
    exact st0_101 w1 _ B ww k g1 g2 h1 h2 w.heap.size nv0 sv0 lv0 nv sv hk8 hBw h.s21 hP hQ

set_option maxRecDepth 1000000 in
set_option maxHeartbeats 8000000 in
theorem st0_021 (w1 w : World) (B ww k g1 g2 h1 h2 h3 : Nat) (nv0 sv0 lv0 nv sv : Value) (hk8 : k ≤ 8) (hBw : B ≤ ww) (h : Build w1 w B ww nv0 sv0 lv0 nv0 sv0 lv0 k k k 0 2 1 (.slice (some ⟨g1, 0, none⟩) 64 64) (.slice (some ⟨g2, 0, none⟩) 64 64) h1 h2 h3)
    {Q : Exit → Act → World → Prop} (hP : ∀ c a b w, Q (.panic c) a w → Q (.panic c) b w) {c0 c1 c2 c3 c4 c5 c6 c8 c9 c10 c11 c12 c13 c14 c15 c16 c17 c18 c19 c20 c21 c22 c23 c24 c25 c26 c27 c35 c36 c37 c44 c50 c51 c52 c53 c54 c55 c56 c57 c58 c59 c60 c61 c62 c63 c64 c65 c66 c67 c68 c69 c70 c71 c72 c73 c74 c75 c76 c77 c78 c79 c80 c81 c82 c83 c84 c85 c86 c87 c88 c89 c90 c91 c92 c93 c94 c95 c96 c97 c98 c99 c100 c101 c102 c103 c104 c105 c106 c107 c108 c109 c110 c111 c112 c113 c114 c115 c116 c117 c118 c119 c120 c121 c122 c123 c124 c125 c126 c127 c128 c129 c130 c131 c132 c133 c134 c135 c136 c137 c138 c139 c140 c141 c142 c143 c144 c145 c146 c147 c148 c149 : Value}
    (hQ : ∀ (w' : World) (nv sv lv : Value) (u28 u29 u30 u31 u32 u33 u34 u35 u36 u37 u38 u39 u40 u41 u42 u43 u44 u45 u46 u47 u48 u49 u50 u51 u52 u53 u54 u55 u56 : Value), Fin_ w1 w' B ww nv sv lv (k + 1) → Q .normal ⟨#[c0, c1, c2, c3, c4, c5, c6, .pointer (some ⟨ww, 0, none⟩), c8, c9, c10, c11, c12, c13, c14, c15, c16, c17, c18, c19, c20, c21, c22, c23, c24, c25, c26, c27, u28, u29, u30, u31, u32, u33, u34, u35, u36, u37, u38, u39, u40, u41, u42, u43, u44, u45, u46, u47, u48, u49, u50, u51, u52, u53, u54, u55, u56, c57, c58, c59, c60, c61, c62, c63, c64, c65, c66, c67, c68, c69, c70, c71, c72, c73, c74, c75, c76, c77, c78, c79, c80, c81, c82, c83, c84, c85, c86, c87, c88, c89, c90, c91, c92, c93, c94, c95, c96, c97, c98, c99, c100, c101, c102, c103, c104, c105, c106, c107, c108, c109, c110, c111, c112, c113, c114, c115, c116, c117, c118, c119, c120, c121, c122, c123, c124, c125, c126, c127, c128, c129, c130, c131, c132, c133, c134, c135, c136, c137, c138, c139, c140, c141, c142, c143, c144, c145, c146, c147, c148, c149], []⟩ w') :
    wpAnyD Try.prog .any ops10 Q (S10 ww nv0 sv0 lv0) [9, 16, 22] 14 #[true, true, true, true, true, true, true, false, false, false, true, true, true, true, true, true, false, true, true, true, true, true, false, false, false, false, false, false, false, false, false, false] ⟨#[c0, c1, c2, c3, c4, c5, c6, .pointer (some ⟨ww, 0, none⟩), c8, c9, c10, c11, c12, c13, c14, c15, c16, c17, c18, c19, c20, c21, c22, c23, c24, c25, c26, c27, .pointer (some ⟨ww, 0, none⟩), .pointer (some ⟨ww, 0, none⟩), .pointer (some ⟨ww, 0, none⟩), .pointer (some ⟨ww, 0, none⟩), .pointer (some ⟨ww, 0, none⟩), .pointer (some ⟨ww, 0, none⟩), nv0, c35, c36, c37, .pointer (some ⟨ww, 0, none⟩), .pointer (some ⟨ww, 0, none⟩), .pointer (some ⟨ww, 1, none⟩), sv0, .slice (some ⟨g2, 0, none⟩) 64 64, .slice (some ⟨h2, 0, none⟩) 1 1, c44, .pointer (some ⟨ww, 0, none⟩), .pointer (some ⟨ww, 0, none⟩), .pointer (some ⟨ww, 2, none⟩), lv0, .slice (some ⟨h3, 0, none⟩) 1 1, c50, c51, c52, c53, c54, c55, c56, c57, c58, c59, c60, c61, c62, c63, c64, c65, c66, c67, c68, c69, c70, c71, c72, c73, c74, c75, c76, c77, c78, c79, c80, c81, c82, c83, c84, c85, c86, c87, c88, c89, c90, c91, c92, c93, c94, c95, c96, c97, c98, c99, c100, c101, c102, c103, c104, c105, c106, c107, c108, c109, c110, c111, c112, c113, c114, c115, c116, c117, c118, c119, c120, c121, c122, c123, c124, c125, c126, c127, c128, c129, c130, c131, c132, c133, c134, c135, c136, c137, c138, c139, c140, c141, c142, c143, c144, c145, c146, c147, c148, c149], []⟩ w := by
  have hmk := run_make_z64
  refine wpAnyD_all (rs := [7]) (by kernel_rfl) (by simp) ?_
  intro i hi
  simp only [List.mem_cons, List.not_mem_nil, or_false] at hi
  rcases hi with rfl
  · skip
    obtain ⟨o, ho, hop, hd, hg⟩ := op10_7
    refine wpOp_step ho (fun K hK => ?_)
    rw [if_pos (by simp [Region.wanted, hg])]
    unfold Oper.wp
    simp only [execOp, hop]
    go_simp
    refine hK _ _ ⟨fun _ => h.s7.cells10, ?_⟩
    go_simp
    exact st0_121 w1 _ B ww k w.heap.size g2 h1 h2 h3 nv0 sv0 lv0 nv sv hk8 hBw h.s7 hP hQ

set_option maxRecDepth 1000000 in
set_option maxHeartbeats 8000000 in
theorem st0_020 (w1 w : World) (B ww k g1 g2 h1 h2 h3 : Nat) (nv0 sv0 lv0 nv sv : Value) (hk8 : k ≤ 8) (hBw : B ≤ ww) (h : Build w1 w B ww nv0 sv0 lv0 nv0 sv0 lv0 k k k 0 2 0 (.slice (some ⟨g1, 0, none⟩) 64 64) (.slice (some ⟨g2, 0, none⟩) 64 64) h1 h2 h3)
    {Q : Exit → Act → World → Prop} (hP : ∀ c a b w, Q (.panic c) a w → Q (.panic c) b w) {c0 c1 c2 c3 c4 c5 c6 c8 c9 c10 c11 c12 c13 c14 c15 c16 c17 c18 c19 c20 c21 c22 c23 c24 c25 c26 c27 c35 c36 c37 c44 c49 c50 c51 c52 c53 c54 c55 c56 c57 c58 c59 c60 c61 c62 c63 c64 c65 c66 c67 c68 c69 c70 c71 c72 c73 c74 c75 c76 c77 c78 c79 c80 c81 c82 c83 c84 c85 c86 c87 c88 c89 c90 c91 c92 c93 c94 c95 c96 c97 c98 c99 c100 c101 c102 c103 c104 c105 c106 c107 c108 c109 c110 c111 c112 c113 c114 c115 c116 c117 c118 c119 c120 c121 c122 c123 c124 c125 c126 c127 c128 c129 c130 c131 c132 c133 c134 c135 c136 c137 c138 c139 c140 c141 c142 c143 c144 c145 c146 c147 c148 c149 : Value}
    (hQ : ∀ (w' : World) (nv sv lv : Value) (u28 u29 u30 u31 u32 u33 u34 u35 u36 u37 u38 u39 u40 u41 u42 u43 u44 u45 u46 u47 u48 u49 u50 u51 u52 u53 u54 u55 u56 : Value), Fin_ w1 w' B ww nv sv lv (k + 1) → Q .normal ⟨#[c0, c1, c2, c3, c4, c5, c6, .pointer (some ⟨ww, 0, none⟩), c8, c9, c10, c11, c12, c13, c14, c15, c16, c17, c18, c19, c20, c21, c22, c23, c24, c25, c26, c27, u28, u29, u30, u31, u32, u33, u34, u35, u36, u37, u38, u39, u40, u41, u42, u43, u44, u45, u46, u47, u48, u49, u50, u51, u52, u53, u54, u55, u56, c57, c58, c59, c60, c61, c62, c63, c64, c65, c66, c67, c68, c69, c70, c71, c72, c73, c74, c75, c76, c77, c78, c79, c80, c81, c82, c83, c84, c85, c86, c87, c88, c89, c90, c91, c92, c93, c94, c95, c96, c97, c98, c99, c100, c101, c102, c103, c104, c105, c106, c107, c108, c109, c110, c111, c112, c113, c114, c115, c116, c117, c118, c119, c120, c121, c122, c123, c124, c125, c126, c127, c128, c129, c130, c131, c132, c133, c134, c135, c136, c137, c138, c139, c140, c141, c142, c143, c144, c145, c146, c147, c148, c149], []⟩ w') :
    wpAnyD Try.prog .any ops10 Q (S10 ww nv0 sv0 lv0) [9, 16, 22] 15 #[true, true, true, true, true, true, true, false, false, false, true, true, true, true, true, true, false, true, true, true, true, false, false, false, false, false, false, false, false, false, false, false] ⟨#[c0, c1, c2, c3, c4, c5, c6, .pointer (some ⟨ww, 0, none⟩), c8, c9, c10, c11, c12, c13, c14, c15, c16, c17, c18, c19, c20, c21, c22, c23, c24, c25, c26, c27, .pointer (some ⟨ww, 0, none⟩), .pointer (some ⟨ww, 0, none⟩), .pointer (some ⟨ww, 0, none⟩), .pointer (some ⟨ww, 0, none⟩), .pointer (some ⟨ww, 0, none⟩), .pointer (some ⟨ww, 0, none⟩), nv0, c35, c36, c37, .pointer (some ⟨ww, 0, none⟩), .pointer (some ⟨ww, 0, none⟩), .pointer (some ⟨ww, 1, none⟩), sv0, .slice (some ⟨g2, 0, none⟩) 64 64, .slice (some ⟨h2, 0, none⟩) 1 1, c44, .pointer (some ⟨ww, 0, none⟩), .pointer (some ⟨ww, 0, none⟩), .pointer (some ⟨ww, 2, none⟩), lv0, c49, c50, c51, c52, c53, c54, c55, c56, c57, c58, c59, c60, c61, c62, c63, c64, c65, c66, c67, c68, c69, c70, c71, c72, c73, c74, c75, c76, c77, c78, c79, c80, c81, c82, c83, c84, c85, c86, c87, c88, c89, c90, c91, c92, c93, c94, c95, c96, c97, c98, c99, c100, c101, c102, c103, c104, c105, c106, c107, c108, c109, c110, c111, c112, c113, c114, c115, c116, c117, c118, c119, c120, c121, c122, c123, c124, c125, c126, c127, c128, c129, c130, c131, c132, c133, c134, c135, c136, c137, c138, c139, c140, c141, c142, c143, c144, c145, c146, c147, c148, c149], []⟩ w := by
  have hmk := run_make_z64
  refine wpAnyD_all (rs := [7, 21]) (by kernel_rfl) (by simp) ?_
  intro i hi
  simp only [List.mem_cons, List.not_mem_nil, or_false] at hi
  rcases hi with rfl | rfl
  · skip
    obtain ⟨o, ho, hop, hd, hg⟩ := op10_7
    refine wpOp_step ho (fun K hK => ?_)
    rw [if_pos (by simp [Region.wanted, hg])]
    unfold Oper.wp
    simp only [execOp, hop]
    go_simp
    refine hK _ _ ⟨fun _ => h.s7.cells10, ?_⟩
    go_simp
    exact st0_120 w1 _ B ww k w.heap.size g2 h1 h2 h3 nv0 sv0 lv0 nv sv hk8 hBw h.s7 hP hQ
  · skip
    obtain ⟨o, ho, hop, hd, hg⟩ := op10_21
    refine wpOp_step ho (fun K hK => ?_)
    rw [if_pos (by simp [Region.wanted, hg])]
    unfold Oper.wp
    simp only [execOp, hop]
    go_simp
    refine hK _ _ ⟨fun _ => h.s21.cells10, ?_⟩
    go_simp
    exact st0_021 w1 _ B ww k g1 g2 h1 h2 w.heap.size nv0 sv0 lv0 nv sv hk8 hBw h.s21 hP hQ

set_option maxRecDepth 1000000 in
set_option maxHeartbeats 8000000 in
theorem st0_011 (w1 w : World) (B ww k g1 g2 h1 h2 h3 : Nat) (nv0 sv0 lv0 nv sv : Value) (hk8 : k ≤ 8) (hBw : B ≤ ww) (h : Build w1 w B ww nv0 sv0 lv0 nv0 sv0 lv0 k k k 0 1 1 (.slice (some ⟨g1, 0, none⟩) 64 64) (.slice (some ⟨g2, 0, none⟩) 64 64) h1 h2 h3)
    {Q : Exit → Act → World → Prop} (hP : ∀ c a b w, Q (.panic c) a w → Q (.panic c) b w) {c0 c1 c2 c3 c4 c5 c6 c8 c9 c10 c11 c12 c13 c14 c15 c16 c17 c18 c19 c20 c21 c22 c23 c24 c25 c26 c27 c35 c36 c37 c43 c44 c50 c51 c52 c53 c54 c55 c56 c57 c58 c59 c60 c61 c62 c63 c64 c65 c66 c67 c68 c69 c70 c71 c72 c73 c74 c75 c76 c77 c78 c79 c80 c81 c82 c83 c84 c85 c86 c87 c88 c89 c90 c91 c92 c93 c94 c95 c96 c97 c98 c99 c100 c101 c102 c103 c104 c105 c106 c107 c108 c109 c110 c111 c112 c113 c114 c115 c116 c117 c118 c119 c120 c121 c122 c123 c124 c125 c126 c127 c128 c129 c130 c131 c132 c133 c134 c135 c136 c137 c138 c139 c140 c141 c142 c143 c144 c145 c146 c147 c148 c149 : Value}
    (hQ : ∀ (w' : World) (nv sv lv : Value) (u28 u29 u30 u31 u32 u33 u34 u35 u36 u37 u38 u39 u40 u41 u42 u43 u44 u45 u46 u47 u48 u49 u50 u51 u52 u53 u54 u55 u56 : Value), Fin_ w1 w' B ww nv sv lv (k + 1) → Q .normal ⟨#[c0, c1, c2, c3, c4, c5, c6, .pointer (some ⟨ww, 0, none⟩), c8, c9, c10, c11, c12, c13, c14, c15, c16, c17, c18, c19, c20, c21, c22, c23, c24, c25, c26, c27, u28, u29, u30, u31, u32, u33, u34, u35, u36, u37, u38, u39, u40, u41, u42, u43, u44, u45, u46, u47, u48, u49, u50, u51, u52, u53, u54, u55, u56, c57, c58, c59, c60, c61, c62, c63, c64, c65, c66, c67, c68, c69, c70, c71, c72, c73, c74, c75, c76, c77, c78, c79, c80, c81, c82, c83, c84, c85, c86, c87, c88, c89, c90, c91, c92, c93, c94, c95, c96, c97, c98, c99, c100, c101, c102, c103, c104, c105, c106, c107, c108, c109, c110, c111, c112, c113, c114, c115, c116, c117, c118, c119, c120, c121, c122, c123, c124, c125, c126, c127, c128, c129, c130, c131, c132, c133, c134, c135, c136, c137, c138, c139, c140, c141, c142, c143, c144, c145, c146, c147, c148, c149], []⟩ w') :
    wpAnyD Try.prog .any ops10 Q (S10 ww nv0 sv0 lv0) [9, 16, 22] 15 #[true, true, true, true, true, true, true, false, false, false, true, true, true, true, true, false, false, true, true, true, true, true, false, false, false, false, false, false, false, false, false, false] ⟨#[c0, c1, c2, c3, c4, c5, c6, .pointer (some ⟨ww, 0, none⟩), c8, c9, c10, c11, c12, c13, c14, c15, c16, c17, c18, c19, c20, c21, c22, c23, c24, c25, c26, c27, .pointer (some ⟨ww, 0, none⟩), .pointer (some ⟨ww, 0, none⟩), .pointer (some ⟨ww, 0, none⟩), .pointer (some ⟨ww, 0, none⟩), .pointer (some ⟨ww, 0, none⟩), .pointer (some ⟨ww, 0, none⟩), nv0, c35, c36, c37, .pointer (some ⟨ww, 0, none⟩), .pointer (some ⟨ww, 0, none⟩), .pointer (some ⟨ww, 1, none⟩), sv0, .slice (some ⟨g2, 0, none⟩) 64 64, c43, c44, .pointer (some ⟨ww, 0, none⟩), .pointer (some ⟨ww, 0, none⟩), .pointer (some ⟨ww, 2, none⟩), lv0, .slice (some ⟨h3, 0, none⟩) 1 1, c50, c51, c52, c53, c54, c55, c56, c57, c58, c59, c60, c61, c62, c63, c64, c65, c66, c67, c68, c69, c70, c71, c72, c73, c74, c75, c76, c77, c78, c79, c80, c81, c82, c83, c84, c85, c86, c87, c88, c89, c90, c91, c92, c93, c94, c95, c96, c97, c98, c99, c100, c101, c102, c103, c104, c105, c106, c107, c108, c109, c110, c111, c112, c113, c114, c115, c116, c117, c118, c119, c120, c121, c122, c123, c124, c125, c126, c127, c128, c129, c130, c131, c132, c133, c134, c135, c136, c137, c138, c139, c140, c141, c142, c143, c144, c145, c146, c147, c148, c149], []⟩ w := by
  have hmk := run_make_z64
  refine wpAnyD_all (rs := [7, 15]) (by kernel_rfl) (by simp) ?_
  intro i hi
  simp only [List.mem_cons, List.not_mem_nil, or_false] at hi
  rcases hi with rfl | rfl
  · skip
    obtain ⟨o, ho, hop, hd, hg⟩ := op10_7
    refine wpOp_step ho (fun K hK => ?_)
    rw [if_pos (by simp [Region.wanted, hg])]
    unfold Oper.wp
    simp only [execOp, hop]
    go_simp
    refine hK _ _ ⟨fun _ => h.s7.cells10, ?_⟩
    go_simp
    exact st0_111 w1 _ B ww k w.heap.size g2 h1 h2 h3 nv0 sv0 lv0 nv sv hk8 hBw h.s7 hP hQ
  · skip
    obtain ⟨o, ho, hop, hd, hg⟩ := op10_15
    refine wpOp_step ho (fun K hK => ?_)
    rw [if_pos (by simp [Region.wanted, hg])]
    unfold Oper.wp
    simp only [execOp, hop]
    go_simp
    refine hK _ _ ⟨fun _ => h.s15.cells10, ?_⟩
    go_simp
    exact st0_021 w1 _ B ww k g1 g2 h1 w.heap.size h3 nv0 sv0 lv0 nv sv hk8 hBw h.s15 hP hQ

set_option maxRecDepth 1000000 in
set_option maxHeartbeats 8000000 in
theorem st0_010 (w1 w : World) (B ww k g1 g2 h1 h2 h3 : Nat) (nv0 sv0 lv0 nv sv : Value) (hk8 : k ≤ 8) (hBw : B ≤ ww) (h : Build w1 w B ww nv0 sv0 lv0 nv0 sv0 lv0 k k k 0 1 0 (.slice (some ⟨g1, 0, none⟩) 64 64) (.slice (some ⟨g2, 0, none⟩) 64 64) h1 h2 h3)
    {Q : Exit → Act → World → Prop} (hP : ∀ c a b w, Q (.panic c) a w → Q (.panic c) b w) {c0 c1 c2 c3 c4 c5 c6 c8 c9 c10 c11 c12 c13 c14 c15 c16 c17 c18 c19 c20 c21 c22 c23 c24 c25 c26 c27 c35 c36 c37 c43 c44 c49 c50 c51 c52 c53 c54 c55 c56 c57 c58 c59 c60 c61 c62 c63 c64 c65 c66 c67 c68 c69 c70 c71 c72 c73 c74 c75 c76 c77 c78 c79 c80 c81 c82 c83 c84 c85 c86 c87 c88 c89 c90 c91 c92 c93 c94 c95 c96 c97 c98 c99 c100 c101 c102 c103 c104 c105 c106 c107 c108 c109 c110 c111 c112 c113 c114 c115 c116 c117 c118 c119 c120 c121 c122 c123 c124 c125 c126 c127 c128 c129 c130 c131 c132 c133 c134 c135 c136 c137 c138 c139 c140 c141 c142 c143 c144 c145 c146 c147 c148 c149 : Value}
    (hQ : ∀ (w' : World) (nv sv lv : Value) (u28 u29 u30 u31 u32 u33 u34 u35 u36 u37 u38 u39 u40 u41 u42 u43 u44 u45 u46 u47 u48 u49 u50 u51 u52 u53 u54 u55 u56 : Value), Fin_ w1 w' B ww nv sv lv (k + 1) → Q .normal ⟨#[c0, c1, c2, c3, c4, c5, c6, .pointer (some ⟨ww, 0, none⟩), c8, c9, c10, c11, c12, c13, c14, c15, c16, c17, c18, c19, c20, c21, c22, c23, c24, c25, c26, c27, u28, u29, u30, u31, u32, u33, u34, u35, u36, u37, u38, u39, u40, u41, u42, u43, u44, u45, u46, u47, u48, u49, u50, u51, u52, u53, u54, u55, u56, c57, c58, c59, c60, c61, c62, c63, c64, c65, c66, c67, c68, c69, c70, c71, c72, c73, c74, c75, c76, c77, c78, c79, c80, c81, c82, c83, c84, c85, c86, c87, c88, c89, c90, c91, c92, c93, c94, c95, c96, c97, c98, c99, c100, c101, c102, c103, c104, c105, c106, c107, c108, c109, c110, c111, c112, c113, c114, c115, c116, c117, c118, c119, c120, c121, c122, c123, c124, c125, c126, c127, c128, c129, c130, c131, c132, c133, c134, c135, c136, c137, c138, c139, c140, c141, c142, c143, c144, c145, c146, c147, c148, c149], []⟩ w') :
    wpAnyD Try.prog .any ops10 Q (S10 ww nv0 sv0 lv0) [9, 16, 22] 16 #[true, true, true, true, true, true, true, false, false, false, true, true, true, true, true, false, false, true, true, true, true, false, false, false, false, false, false, false, false, false, false, false] ⟨#[c0, c1, c2, c3, c4, c5, c6, .pointer (some ⟨ww, 0, none⟩), c8, c9, c10, c11, c12, c13, c14, c15, c16, c17, c18, c19, c20, c21, c22, c23, c24, c25, c26, c27, .pointer (some ⟨ww, 0, none⟩), .pointer (some ⟨ww, 0, none⟩), .pointer (some ⟨ww, 0, none⟩), .pointer (some ⟨ww, 0, none⟩), .pointer (some ⟨ww, 0, none⟩), .pointer (some ⟨ww, 0, none⟩), nv0, c35, c36, c37, .pointer (some ⟨ww, 0, none⟩), .pointer (some ⟨ww, 0, none⟩), .pointer (some ⟨ww, 1, none⟩), sv0, .slice (some ⟨g2, 0, none⟩) 64 64, c43, c44, .pointer (some ⟨ww, 0, none⟩), .pointer (some ⟨ww, 0, none⟩), .pointer (some ⟨ww, 2, none⟩), lv0, c49, c50, c51, c52, c53, c54, c55, c56, c57, c58, c59, c60, c61, c62, c63, c64, c65, c66, c67, c68, c69, c70, c71, c72, c73, c74, c75, c76, c77, c78, c79, c80, c81, c82, c83, c84, c85, c86, c87, c88, c89, c90, c91, c92, c93, c94, c95, c96, c97, c98, c99, c100, c101, c102, c103, c104, c105, c106, c107, c108, c109, c110, c111, c112, c113, c114, c115, c116, c117, c118, c119, c120, c121, c122, c123, c124, c125, c126, c127, c128, c129, c130, c131, c132, c133, c134, c135, c136, c137, c138, c139, c140, c141, c142, c143, c144, c145, c146, c147, c148, c149], []⟩ w := by
  have hmk := run_make_z64
  refine wpAnyD_all (rs := [7, 15, 21]) (by kernel_rfl) (by simp) ?_
  intro i hi
  simp only [List.mem_cons, List.not_mem_nil, or_false] at hi
  rcases hi with rfl | rfl | rfl
  · skip
    obtain ⟨o, ho, hop, hd, hg⟩ := op10_7
    refine wpOp_step ho (fun K hK => ?_)
    rw [if_pos (by simp [Region.wanted, hg])]
    unfold Oper.wp
    simp only [execOp, hop]
    go_simp
    refine hK _ _ ⟨fun _ => h.s7.cells10, ?_⟩
    go_simp
    exact st0_110 w1 _ B ww k w.heap.size g2 h1 h2 h3 nv0 sv0 lv0 nv sv hk8 hBw h.s7 hP hQ
  · skip
    obtain ⟨o, ho, hop, hd, hg⟩ := op10_15
    refine wpOp_step ho (fun K hK => ?_)
    rw [if_pos (by simp [Region.wanted, hg])]
    unfold Oper.wp
    simp only [execOp, hop]
    go_simp
    refine hK _ _ ⟨fun _ => h.s15.cells10, ?_⟩
    go_simp
    exact st0_020 w1 _ B ww k g1 g2 h1 w.heap.size h3 nv0 sv0 lv0 nv sv hk8 hBw h.s15 hP hQ
  · skip
    obtain ⟨o, ho, hop, hd, hg⟩ := op10_21
    refine wpOp_step ho (fun K hK => ?_)
    rw [if_pos (by simp [Region.wanted, hg])]
    unfold Oper.wp
    simp only [execOp, hop]
    go_simp
    refine hK _ _ ⟨fun _ => h.s21.cells10, ?_⟩
    go_simp
    exact st0_011 w1 _ B ww k g1 g2 h1 h2 w.heap.size nv0 sv0 lv0 nv sv hk8 hBw h.s21 hP hQ

set_option maxRecDepth 1000000 in
set_option maxHeartbeats 8000000 in
theorem st0_001 (w1 w : World) (B ww k g1 g2 h1 h2 h3 : Nat) (nv0 sv0 lv0 nv sv : Value) (hk8 : k ≤ 8) (hBw : B ≤ ww) (h : Build w1 w B ww nv0 sv0 lv0 nv0 sv0 lv0 k k k 0 0 1 (.slice (some ⟨g1, 0, none⟩) 64 64) (.slice (some ⟨g2, 0, none⟩) 64 64) h1 h2 h3)
    {Q : Exit → Act → World → Prop} (hP : ∀ c a b w, Q (.panic c) a w → Q (.panic c) b w) {c0 c1 c2 c3 c4 c5 c6 c8 c9 c10 c11 c12 c13 c14 c15 c16 c17 c18 c19 c20 c21 c22 c23 c24 c25 c26 c27 c35 c36 c37 c42 c43 c44 c50 c51 c52 c53 c54 c55 c56 c57 c58 c59 c60 c61 c62 c63 c64 c65 c66 c67 c68 c69 c70 c71 c72 c73 c74 c75 c76 c77 c78 c79 c80 c81 c82 c83 c84 c85 c86 c87 c88 c89 c90 c91 c92 c93 c94 c95 c96 c97 c98 c99 c100 c101 c102 c103 c104 c105 c106 c107 c108 c109 c110 c111 c112 c113 c114 c115 c116 c117 c118 c119 c120 c121 c122 c123 c124 c125 c126 c127 c128 c129 c130 c131 c132 c133 c134 c135 c136 c137 c138 c139 c140 c141 c142 c143 c144 c145 c146 c147 c148 c149 : Value}
    (hQ : ∀ (w' : World) (nv sv lv : Value) (u28 u29 u30 u31 u32 u33 u34 u35 u36 u37 u38 u39 u40 u41 u42 u43 u44 u45 u46 u47 u48 u49 u50 u51 u52 u53 u54 u55 u56 : Value), Fin_ w1 w' B ww nv sv lv (k + 1) → Q .normal ⟨#[c0, c1, c2, c3, c4, c5, c6, .pointer (some ⟨ww, 0, none⟩), c8, c9, c10, c11, c12, c13, c14, c15, c16, c17, c18, c19, c20, c21, c22, c23, c24, c25, c26, c27, u28, u29, u30, u31, u32, u33, u34, u35, u36, u37, u38, u39, u40, u41, u42, u43, u44, u45, u46, u47, u48, u49, u50, u51, u52, u53, u54, u55, u56, c57, c58, c59, c60, c61, c62, c63, c64, c65, c66, c67, c68, c69, c70, c71, c72, c73, c74, c75, c76, c77, c78, c79, c80, c81, c82, c83, c84, c85, c86, c87, c88, c89, c90, c91, c92, c93, c94, c95, c96, c97, c98, c99, c100, c101, c102, c103, c104, c105, c106, c107, c108, c109, c110, c111, c112, c113, c114, c115, c116, c117, c118, c119, c120, c121, c122, c123, c124, c125, c126, c127, c128, c129, c130, c131, c132, c133, c134, c135, c136, c137, c138, c139, c140, c141, c142, c143, c144, c145, c146, c147, c148, c149], []⟩ w') :
    wpAnyD Try.prog .any ops10 Q (S10 ww nv0 sv0 lv0) [9, 16, 22] 16 #[true, true, true, true, true, true, true, false, false, false, true, true, true, true, false, false, false, true, true, true, true, true, false, false, false, false, false, false, false, false, false, false] ⟨#[c0, c1, c2, c3, c4, c5, c6, .pointer (some ⟨ww, 0, none⟩), c8, c9, c10, c11, c12, c13, c14, c15, c16, c17, c18, c19, c20, c21, c22, c23, c24, c25, c26, c27, .pointer (some ⟨ww, 0, none⟩), .pointer (some ⟨ww, 0, none⟩), .pointer (some ⟨ww, 0, none⟩), .pointer (some ⟨ww, 0, none⟩), .pointer (some ⟨ww, 0, none⟩), .pointer (some ⟨ww, 0, none⟩), nv0, c35, c36, c37, .pointer (some ⟨ww, 0, none⟩), .pointer (some ⟨ww, 0, none⟩), .pointer (some ⟨ww, 1, none⟩), sv0, c42, c43, c44, .pointer (some ⟨ww, 0, none⟩), .pointer (some ⟨ww, 0, none⟩), .pointer (some ⟨ww, 2, none⟩), lv0, .slice (some ⟨h3, 0, none⟩) 1 1, c50, c51, c52, c53, c54, c55, c56, c57, c58, c59, c60, c61, c62, c63, c64, c65, c66, c67, c68, c69, c70, c71, c72, c73, c74, c75, c76, c77, c78, c79, c80, c81, c82, c83, c84, c85, c86, c87, c88, c89, c90, c91, c92, c93, c94, c95, c96, c97, c98, c99, c100, c101, c102, c103, c104, c105, c106, c107, c108, c109, c110, c111, c112, c113, c114, c115, c116, c117, c118, c119, c120, c121, c122, c123, c124, c125, c126, c127, c128, c129, c130, c131, c132, c133, c134, c135, c136, c137, c138, c139, c140, c141, c142, c143, c144, c145, c146, c147, c148, c149], []⟩ w := by
  have hmk := run_make_z64
  refine wpAnyD_all (rs := [7, 14]) (by kernel_rfl) (by simp) ?_
  intro i hi
  simp only [List.mem_cons, List.not_mem_nil, or_false] at hi
  rcases hi with rfl | rfl
  · skip
    obtain ⟨o, ho, hop, hd, hg⟩ := op10_7
    refine wpOp_step ho (fun K hK => ?_)
    rw [if_pos (by simp [Region.wanted, hg])]
    unfold Oper.wp
    simp only [execOp, hop]
    go_simp
    refine hK _ _ ⟨fun _ => h.s7.cells10, ?_⟩
    go_simp
    exact st0_101 w1 _ B ww k w.heap.size g2 h1 h2 h3 nv0 sv0 lv0 nv sv hk8 hBw h.s7 hP hQ
  · skip
    obtain ⟨o, ho, hop, hd, hg⟩ := op10_14
    refine wpOp_step ho (fun K hK => ?_)
    rw [if_pos (by simp [Region.wanted, hg])]
    unfold Oper.wp
    simp only [execOp, hop]
    go_simp
    refine hK _ _ ⟨fun _ => h.s14.cells10, ?_⟩
    go_simp
    exact st0_011 w1 _ B ww k g1 w.heap.size h1 h2 h3 nv0 sv0 lv0 nv sv hk8 hBw h.s14 hP hQ

set_option maxRecDepth 1000000 in
set_option maxHeartbeats 8000000 in
theorem st0_000 (w1 w : World) (B ww k g1 g2 h1 h2 h3 : Nat) (nv0 sv0 lv0 nv sv : Value) (hk8 : k ≤ 8) (hBw : B ≤ ww) (h : Build w1 w B ww nv0 sv0 lv0 nv0 sv0 lv0 k k k 0 0 0 (.slice (some ⟨g1, 0, none⟩) 64 64) (.slice (some ⟨g2, 0, none⟩) 64 64) h1 h2 h3)
    {Q : Exit → Act → World → Prop} (hP : ∀ c a b w, Q (.panic c) a w → Q (.panic c) b w) {c0 c1 c2 c3 c4 c5 c6 c8 c9 c10 c11 c12 c13 c14 c15 c16 c17 c18 c19 c20 c21 c22 c23 c24 c25 c26 c27 c35 c36 c37 c42 c43 c44 c49 c50 c51 c52 c53 c54 c55 c56 c57 c58 c59 c60 c61 c62 c63 c64 c65 c66 c67 c68 c69 c70 c71 c72 c73 c74 c75 c76 c77 c78 c79 c80 c81 c82 c83 c84 c85 c86 c87 c88 c89 c90 c91 c92 c93 c94 c95 c96 c97 c98 c99 c100 c101 c102 c103 c104 c105 c106 c107 c108 c109 c110 c111 c112 c113 c114 c115 c116 c117 c118 c119 c120 c121 c122 c123 c124 c125 c126 c127 c128 c129 c130 c131 c132 c133 c134 c135 c136 c137 c138 c139 c140 c141 c142 c143 c144 c145 c146 c147 c148 c149 : Value}
    (hQ : ∀ (w' : World) (nv sv lv : Value) (u28 u29 u30 u31 u32 u33 u34 u35 u36 u37 u38 u39 u40 u41 u42 u43 u44 u45 u46 u47 u48 u49 u50 u51 u52 u53 u54 u55 u56 : Value), Fin_ w1 w' B ww nv sv lv (k + 1) → Q .normal ⟨#[c0, c1, c2, c3, c4, c5, c6, .pointer (some ⟨ww, 0, none⟩), c8, c9, c10, c11, c12, c13, c14, c15, c16, c17, c18, c19, c20, c21, c22, c23, c24, c25, c26, c27, u28, u29, u30, u31, u32, u33, u34, u35, u36, u37, u38, u39, u40, u41, u42, u43, u44, u45, u46, u47, u48, u49, u50, u51, u52, u53, u54, u55, u56, c57, c58, c59, c60, c61, c62, c63, c64, c65, c66, c67, c68, c69, c70, c71, c72, c73, c74, c75, c76, c77, c78, c79, c80, c81, c82, c83, c84, c85, c86, c87, c88, c89, c90, c91, c92, c93, c94, c95, c96, c97, c98, c99, c100, c101, c102, c103, c104, c105, c106, c107, c108, c109, c110, c111, c112, c113, c114, c115, c116, c117, c118, c119, c120, c121, c122, c123, c124, c125, c126, c127, c128, c129, c130, c131, c132, c133, c134, c135, c136, c137, c138, c139, c140, c141, c142, c143, c144, c145, c146, c147, c148, c149], []⟩ w') :
    wpAnyD Try.prog .any ops10 Q (S10 ww nv0 sv0 lv0) [9, 16, 22] 17 #[true, true, true, true, true, true, true, false, false, false, true, true, true, true, false, false, false, true, true, true, true, false, false, false, false, false, false, false, false, false, false, false] ⟨#[c0, c1, c2, c3, c4, c5, c6, .pointer (some ⟨ww, 0, none⟩), c8, c9, c10, c11, c12, c13, c14, c15, c16, c17, c18, c19, c20, c21, c22, c23, c24, c25, c26, c27, .pointer (some ⟨ww, 0, none⟩), .pointer (some ⟨ww, 0, none⟩), .pointer (some ⟨ww, 0, none⟩), .pointer (some ⟨ww, 0, none⟩), .pointer (some ⟨ww, 0, none⟩), .pointer (some ⟨ww, 0, none⟩), nv0, c35, c36, c37, .pointer (some ⟨ww, 0, none⟩), .pointer (some ⟨ww, 0, none⟩), .pointer (some ⟨ww, 1, none⟩), sv0, c42, c43, c44, .pointer (some ⟨ww, 0, none⟩), .pointer (some ⟨ww, 0, none⟩), .pointer (some ⟨ww, 2, none⟩), lv0, c49, c50, c51, c52, c53, c54, c55, c56, c57, c58, c59, c60, c61, c62, c63, c64, c65, c66, c67, c68, c69, c70, c71, c72, c73, c74, c75, c76, c77, c78, c79, c80, c81, c82, c83, c84, c85, c86, c87, c88, c89, c90, c91, c92, c93, c94, c95, c96, c97, c98, c99, c100, c101, c102, c103, c104, c105, c106, c107, c108, c109, c110, c111, c112, c113, c114, c115, c116, c117, c118, c119, c120, c121, c122, c123, c124, c125, c126, c127, c128, c129, c130, c131, c132, c133, c134, c135, c136, c137, c138, c139, c140, c141, c142, c143, c144, c145, c146, c147, c148, c149], []⟩ w := by
  have hmk := run_make_z64
  refine wpAnyD_all (rs := [7, 14, 21]) (by kernel_rfl) (by simp) ?_
  intro i hi
  simp only [List.mem_cons, List.not_mem_nil, or_false] at hi
  rcases hi with rfl | rfl | rfl
  · skip
    obtain ⟨o, ho, hop, hd, hg⟩ := op10_7
    refine wpOp_step ho (fun K hK => ?_)
    rw [if_pos (by simp [Region.wanted, hg])]
    unfold Oper.wp
    simp only [execOp, hop]
    go_simp
    refine hK _ _ ⟨fun _ => h.s7.cells10, ?_⟩
    go_simp
    exact st0_100 w1 _ B ww k w.heap.size g2 h1 h2 h3 nv0 sv0 lv0 nv sv hk8 hBw h.s7 hP hQ
  · skip
    obtain ⟨o, ho, hop, hd, hg⟩ := op10_14
    refine wpOp_step ho (fun K hK => ?_)
    rw [if_pos (by simp [Region.wanted, hg])]
    unfold Oper.wp
    simp only [execOp, hop]
    go_simp
    refine hK _ _ ⟨fun _ => h.s14.cells10, ?_⟩
    go_simp
    exact st0_010 w1 _ B ww k g1 w.heap.size h1 h2 h3 nv0 sv0 lv0 nv sv hk8 hBw h.s14 hP hQ
  · skip
    obtain ⟨o, ho, hop, hd, hg⟩ := op10_21
    refine wpOp_step ho (fun K hK => ?_)
    rw [if_pos (by simp [Region.wanted, hg])]
    unfold Oper.wp
    simp only [execOp, hop]
    go_simp
    refine hK _ _ ⟨fun _ => h.s21.cells10, ?_⟩
    go_simp
    exact st0_001 w1 _ B ww k g1 g2 h1 h2 w.heap.size nv0 sv0 lv0 nv sv hk8 hBw h.s21 hP hQ

end Go.Proofs.Ytchibinlcedjaaa