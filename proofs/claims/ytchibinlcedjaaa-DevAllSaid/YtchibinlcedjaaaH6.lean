import Derived.Test.YtchibinlcedjaaaH5
namespace Go.Proofs.Ytchibinlcedjaaa
open Go.RowKit
def S10 (ww : Nat) (nv0 sv0 lv0 : Value) (w : World) : Prop := w.cell? ⟨ww, 0, none⟩ = some nv0 ∧ w.cell? ⟨ww, 1, none⟩ = some sv0 ∧ w.cell? ⟨ww, 2, none⟩ = some lv0
/-- What a round leaves. -/
structure Fin_ (w1 w : World) (B ww : Nat) (nv sv lv : Value) (k : Nat) : Prop where
  base : Below B w1 w
  lo : B ≤ w.heap.size
  head : Bl w ww 30 [nv, sv, lv, .int .i64 0, .int .i64 (-1)]
  rn : RowsV w B nv k
  rs : RowsV w B sv k
  rl : w.ownsRow B 4 1 lv k (tv (List.replicate k false))
  ne : ∀ g, nv.ownBlock = some g → sv.ownBlock ≠ some g

set_option maxRecDepth 1000000 in
set_option maxHeartbeats 8000000 in
theorem st3 (w1 w : World) (B ww k : Nat) (nv0 sv0 lv0 nv sv lv v35 v42 : Value) (h1 h2 h3 : Nat) (hBw : B ≤ ww) (h : Build w1 w B ww nv0 sv0 lv0 nv sv lv (k + 1) (k + 1) (k + 1) 0 0 0 v35 v42 h1 h2 h3)
    {Q : Exit → Act → World → Prop} (hP : ∀ c a b w, Q (.panic c) a w → Q (.panic c) b w) (c0 c1 c2 c3 c4 c5 c6 c8 c9 c10 c11 c12 c13 c14 c15 c16 c17 c18 c19 c20 c21 c22 c23 c24 c25 c26 c27 c35 c36 c42 c43 c49 c51 c52 c53 c54 c55 c56 c57 c58 c59 c60 c61 c62 c63 c64 c65 c66 c67 c68 c69 c70 c71 c72 c73 c74 c75 c76 c77 c78 c79 c80 c81 c82 c83 c84 c85 c86 c87 c88 c89 c90 c91 c92 c93 c94 c95 c96 c97 c98 c99 c100 c101 c102 c103 c104 c105 c106 c107 c108 c109 c110 c111 c112 c113 c114 c115 c116 c117 c118 c119 c120 c121 c122 c123 c124 c125 c126 c127 c128 c129 c130 c131 c132 c133 c134 c135 c136 c137 c138 c139 c140 c141 c142 c143 c144 c145 c146 c147 c148 c149 : Value)
    (hQ : ∀ (w' : World) (nv sv lv : Value) (u28 u29 u30 u31 u32 u33 u34 u35 u36 u37 u38 u39 u40 u41 u42 u43 u44 u45 u46 u47 u48 u49 u50 u51 u52 u53 u54 u55 u56 : Value), Fin_ w1 w' B ww nv sv lv (k + 1) → Q .normal ⟨#[c0, c1, c2, c3, c4, c5, c6, .pointer (some ⟨ww, 0, none⟩), c8, c9, c10, c11, c12, c13, c14, c15, c16, c17, c18, c19, c20, c21, c22, c23, c24, c25, c26, c27, u28, u29, u30, u31, u32, u33, u34, u35, u36, u37, u38, u39, u40, u41, u42, u43, u44, u45, u46, u47, u48, u49, u50, u51, u52, u53, u54, u55, u56, c57, c58, c59, c60, c61, c62, c63, c64, c65, c66, c67, c68, c69, c70, c71, c72, c73, c74, c75, c76, c77, c78, c79, c80, c81, c82, c83, c84, c85, c86, c87, c88, c89, c90, c91, c92, c93, c94, c95, c96, c97, c98, c99, c100, c101, c102, c103, c104, c105, c106, c107, c108, c109, c110, c111, c112, c113, c114, c115, c116, c117, c118, c119, c120, c121, c122, c123, c124, c125, c126, c127, c128, c129, c130, c131, c132, c133, c134, c135, c136, c137, c138, c139, c140, c141, c142, c143, c144, c145, c146, c147, c148, c149], []⟩ w') :
    wpAnyD Try.prog .any ops10 Q (S10 ww nv0 sv0 lv0) [9, 16, 22] 9 #[true, true, true, true, true, true, true, true, true, true, true, true, true, true, true, true, true, true, true, true, true, true, true, false, false, false, false, false, false, false, false, false] ⟨#[c0, c1, c2, c3, c4, c5, c6, .pointer (some ⟨ww, 0, none⟩), c8, c9, c10, c11, c12, c13, c14, c15, c16, c17, c18, c19, c20, c21, c22, c23, c24, c25, c26, c27, .pointer (some ⟨ww, 0, none⟩), .pointer (some ⟨ww, 0, none⟩), .pointer (some ⟨ww, 0, none⟩), .pointer (some ⟨ww, 0, none⟩), .pointer (some ⟨ww, 0, none⟩), .pointer (some ⟨ww, 0, none⟩), nv0, c35, c36, nv, .pointer (some ⟨ww, 0, none⟩), .pointer (some ⟨ww, 0, none⟩), .pointer (some ⟨ww, 1, none⟩), sv0, c42, c43, sv, .pointer (some ⟨ww, 0, none⟩), .pointer (some ⟨ww, 0, none⟩), .pointer (some ⟨ww, 2, none⟩), lv0, c49, lv, c51, c52, c53, c54, c55, c56, c57, c58, c59, c60, c61, c62, c63, c64, c65, c66, c67, c68, c69, c70, c71, c72, c73, c74, c75, c76, c77, c78, c79, c80, c81, c82, c83, c84, c85, c86, c87, c88, c89, c90, c91, c92, c93, c94, c95, c96, c97, c98, c99, c100, c101, c102, c103, c104, c105, c106, c107, c108, c109, c110, c111, c112, c113, c114, c115, c116, c117, c118, c119, c120, c121, c122, c123, c124, c125, c126, c127, c128, c129, c130, c131, c132, c133, c134, c135, c136, c137, c138, c139, c140, c141, c142, c143, c144, c145, c146, c147, c148, c149], []⟩ w := by
  obtain ⟨nc, hrn, hrn2⟩ := h.rn
  obtain ⟨sc, hrs, hrs2⟩ := h.rs
  have hrl := h.rl
  obtain ⟨an, cn, rfl⟩ := own_form hrn
  obtain ⟨as_, cs_, rfl⟩ := own_form hrs
  obtain ⟨al, cl, rfl⟩ := own_form hrl
  have c0 : w.cell? ⟨ww, 0, none⟩ = some nv0 := h.head.cell 0
  have c1 : w.cell? ⟨ww, 1, none⟩ = some sv0 := h.head.cell 1
  have c2 : w.cell? ⟨ww, 2, none⟩ = some lv0 := h.head.cell 2
  have f0 := h.head.free 0
  have f1 := h.head.free 1
  have f2 := h.head.free 2
  obtain ⟨o, ho, hop, hd, hg⟩ := op10_23
  refine wpAnyD_takeFree (i := 23) (v := .pointer (some ⟨ww, 0, none⟩)) ho sel10 (by kernel_rfl) (by kernel_rfl) (fun c a w h => hP c _ _ w h) (by decide) (.inl ⟨by simp [Region.wanted, hg], fun w _ => ?_⟩) (fun h => absurd h (by decide)) ?_
  · simp only [execOp, hop]
    go_simp
  rw [hd]
  go_simp
  clear ho hop hd hg o
  obtain ⟨o, ho, hop, hd, hg⟩ := op10_24
  refine wpAnyD_takeFree (i := 24) (v := .pointer (some ⟨ww, 0, none⟩)) ho sel10 (by kernel_rfl) (by kernel_rfl) (fun c a w h => hP c _ _ w h) (by decide) (.inl ⟨by simp [Region.wanted, hg], fun w _ => ?_⟩) (fun h => absurd h (by decide)) ?_
  · simp only [execOp, hop]
    go_simp
  rw [hd]
  go_simp
  clear ho hop hd hg o
  refine wpAnyD_all (rs := [25]) (by kernel_rfl) (by simp) ?_
  intro i hi
  obtain rfl : i = 25 := by simpa using hi
  obtain ⟨o, ho, hop, hd, hg⟩ := op10_25
  refine wpOp_step ho (fun K hK => ?_)
  rw [if_pos (by simp [Region.wanted, hg])]
  unfold Oper.wp
  simp only [execOp, hop]
  go_simp
  refine hK _ _ ⟨fun h => absurd h (by decide), ?_⟩
  go_simp
  clear ho hop hd hg o hK K
  obtain ⟨o, ho, hop, hd, hg⟩ := op10_26
  refine wpAnyD_takeFree (i := 26) (v := .pointer (some ⟨ww, 0, none⟩)) ho sel10 (by kernel_rfl) (by kernel_rfl) (fun c a w h => hP c _ _ w h) (by decide) (.inl ⟨by simp [Region.wanted, hg], fun w _ => ?_⟩) (fun h => absurd h (by decide)) ?_
  · simp only [execOp, hop]
    go_simp
  rw [hd]
  go_simp
  clear ho hop hd hg o
  obtain ⟨o, ho, hop, hd, hg⟩ := op10_27
  refine wpAnyD_takeFree (i := 27) (v := .pointer (some ⟨ww, 1, none⟩)) ho sel10 (by kernel_rfl) (by kernel_rfl) (fun c a w h => hP c _ _ w h) (by decide) (.inl ⟨by simp [Region.wanted, hg], fun w _ => ?_⟩) (fun h => absurd h (by decide)) ?_
  · simp only [execOp, hop]
    go_simp
  rw [hd]
  go_simp
  clear ho hop hd hg o
  refine wpAnyD_all (rs := [28]) (by kernel_rfl) (by simp) ?_
  intro i hi
  obtain rfl : i = 28 := by simpa using hi
  obtain ⟨o, ho, hop, hd, hg⟩ := op10_28
  refine wpOp_step ho (fun K hK => ?_)
  rw [if_pos (by simp [Region.wanted, hg])]
  unfold Oper.wp
  simp only [execOp, hop]
  go_simp
  refine hK _ _ ⟨fun h => absurd h (by decide), ?_⟩
  go_simp
  clear ho hop hd hg o hK K
  obtain ⟨o, ho, hop, hd, hg⟩ := op10_29
  refine wpAnyD_takeFree (i := 29) (v := .pointer (some ⟨ww, 0, none⟩)) ho sel10 (by kernel_rfl) (by kernel_rfl) (fun c a w h => hP c _ _ w h) (by decide) (.inl ⟨by simp [Region.wanted, hg], fun w _ => ?_⟩) (fun h => absurd h (by decide)) ?_
  · simp only [execOp, hop]
    go_simp
  rw [hd]
  go_simp
  clear ho hop hd hg o
  obtain ⟨o, ho, hop, hd, hg⟩ := op10_30
  refine wpAnyD_takeFree (i := 30) (v := .pointer (some ⟨ww, 2, none⟩)) ho sel10 (by kernel_rfl) (by kernel_rfl) (fun c a w h => hP c _ _ w h) (by decide) (.inl ⟨by simp [Region.wanted, hg], fun w _ => ?_⟩) (fun h => absurd h (by decide)) ?_
  · simp only [execOp, hop]
    go_simp
  rw [hd]
  go_simp
  clear ho hop hd hg o
  refine wpAnyD_all (rs := [31]) (by kernel_rfl) (by simp) ?_
  intro i hi
  obtain rfl : i = 31 := by simpa using hi
  obtain ⟨o, ho, hop, hd, hg⟩ := op10_31
  refine wpOp_step ho (fun K hK => ?_)
  rw [if_pos (by simp [Region.wanted, hg])]
  unfold Oper.wp
  simp only [execOp, hop]
  go_simp
  refine hK _ _ ⟨fun h => absurd h (by decide), ?_⟩
  go_simp
  clear ho hop hd hg o hK K
  refine wpAnyD_done (by kernel_rfl) ?_ _
  have ht := one_block (Ty.bl h.head) (by decide : (30 : TypeId) ≠ 5)
  have FR : Fr [ww] w _ := (((Fr.refl [ww] w).setCell (p := ⟨ww, 0, none⟩) (by simp) (.slice an (k + 1) cn)).setCell (p := ⟨ww, 1, none⟩) (by simp) (.slice as_ (k + 1) cs_)).setCell (p := ⟨ww, 2, none⟩) (by simp) (.slice al (k + 1) cl)
  refine hQ _ (.slice an (k + 1) cn) (.slice as_ (k + 1) cs_) (.slice al (k + 1) cl) _ _ _ _ _ _ _ _ _ _ _ _ _ _ _ _ _ _ _ _ _ _ _ _ _ _ _ _ _ ⟨h.base.trans (FR.below h.lo (by simp; omega)), Nat.le_trans h.lo FR.size, ((h.head.set 0 _).set 1 _).set 2 _, h.rn.fr FR (fun g hg hm => ?_) ht, h.rs.fr FR (fun g hg hm => ?_) ht, ownsRow_fr h.rl FR (fun g hg hm => ?_), h.ne⟩
  · simp only [List.mem_cons, List.not_mem_nil, or_false] at hm
    exact (h.rn.ty hg).ne (Ty.bl h.head) (by decide) hm
  · simp only [List.mem_cons, List.not_mem_nil, or_false] at hm
    exact (h.rs.ty hg).ne (Ty.bl h.head) (by decide) hm
  · simp only [List.mem_cons, List.not_mem_nil, or_false] at hm
    subst hm
    exact own_ty h.rl (Ty.bl h.head) (by decide) hg

end Go.Proofs.Ytchibinlcedjaaa