import Derived.Test.YtchibinlcedjaaaG1
import Derived.Test.YtchibinlcedjaaaF6
import Derived.Deep.CutBlock
namespace Go.Proofs.Ytchibinlcedjaaa
open Go.RowKit
def blockOf (n : Nat) : Code → Option Code
  | .block m c => if m = n then some (.block m c) else blockOf n c
  | .seq a b => match blockOf n a with
    | some c => some c
    | none => blockOf n b
  | .loop c => blockOf n c
  | .scope c => blockOf n c
  | .cond _ a b => match blockOf n a with
    | some c => some c
    | none => blockOf n b
  | _ => none
noncomputable def blk (n : Nat) : Code := ((Try.f3.body.bind (blockOf n)).getD .skip)
/-- What stands in memory in a round. -/
structure DS (w0 w : World) (p b ww nb sb lb nc sc lc : Nat) (D : DM) (m : WM) (n k : Nat) : Prop where
  dev : DevAt w p b D
  wat : WAt w ww nb sb lb nc sc lc m
  rel : Rel D m
  len : D.secs.length = n
  calls : D.calls ≤ k
  lo : w0.heap.size ≤ p ∧ w0.heap.size ≤ b ∧ w0.heap.size ≤ ww ∧ w0.heap.size ≤ nb ∧ w0.heap.size ≤ sb ∧ w0.heap.size ≤ lb
  bel : Below w0.heap.size w0 w
section
variable {w0 w : World} {p b ww nb sb lb nc sc lc : Nat} {D : DM} {m : WM} {n k : Nat}
theorem DS.keep {w' : World} (h : DS w0 w p b ww nb sb lb nc sc lc D m n k) (f : Fr [] w w') : DS w0 w' p b ww nb sb lb nc sc lc D m n k :=
  ⟨h.dev.fr f (by simp) (by simp), h.wat.keep f, h.rel, h.len, h.calls, h.lo, h.bel.trans (f.below h.bel.size (by simp))⟩
theorem DS.mono {k' : Nat} (h : DS w0 w p b ww nb sb lb nc sc lc D m n k) (hk : k ≤ k') : DS w0 w p b ww nb sb lb nc sc lc D m n k' :=
  ⟨h.dev, h.wat, h.rel, h.len, Nat.le_trans h.calls hk, h.lo, h.bel⟩
theorem DS.fuse (h : DS w0 w p b ww nb sb lb nc sc lc D m n k) : -1 ≤ m.fuse ∧ m.fuse ≤ 9223372036854775807 := by
  have h1 := h.dev.2.2.2.2.2
  rcases h.rel.fuse with ⟨_, e⟩ | ⟨_, _, e⟩ | ⟨_, _, e, _⟩ <;> omega
theorem DS.mlen (h : DS w0 w p b ww nb sb lb nc sc lc D m n k) : m.now.length = n := by rw [← h.rel.mt.len]; exact h.len
theorem DS.mcalls (h : DS w0 w p b ww nb sb lb nc sc lc D m n k) : m.calls ≤ k := by rw [← h.rel.mt.calls]; exact h.calls
/-- A write to the device leaves the law's world. -/
theorem DS.dev_nes (h : DS w0 w p b ww nb sb lb nc sc lc D m n k) : ww ≠ p ∧ ww ≠ b ∧ nb ≠ p ∧ nb ≠ b ∧ sb ≠ p ∧ sb ≠ b ∧ lb ≠ p ∧ lb ≠ b :=
  ⟨(Ty.bl h.wat.head).ne (Ty.bl h.dev.1) (by decide), (Ty.bl h.wat.head).ne (Ty.bl h.dev.2.1) (by decide), h.wat.now.ty.ne (Ty.bl h.dev.1) (by decide), h.wat.now.ty.ne (Ty.bl h.dev.2.1) (by decide),
   h.wat.safe.ty.ne (Ty.bl h.dev.1) (by decide), h.wat.safe.ty.ne (Ty.bl h.dev.2.1) (by decide), (Ty.own h.wat.loose).ne (Ty.bl h.dev.1) (by decide), (Ty.own h.wat.loose).ne (Ty.bl h.dev.2.1) (by decide)⟩
theorem DS.wat_dev {w' : World} (h : DS w0 w p b ww nb sb lb nc sc lc D m n k) (f : Fr [p, b] w w') : WAt w' ww nb sb lb nc sc lc m := by
  have hn := h.dev_nes
  refine h.wat.fr f (by simp; omega) (by simp; omega) (by simp; omega) (by simp; omega) fun j hj => ?_
  simp only [List.mem_cons, List.not_mem_nil, or_false] at hj
  rcases hj with rfl | rfl
  · exact ⟨65, Ty.bl h.dev.1, by decide⟩
  · exact ⟨69, Ty.bl h.dev.2.1, by decide⟩
end

set_option maxRecDepth 1000000 in
set_option maxHeartbeats 8000000 in
theorem devFlush (w0 w : World) (p b ww nb sb lb nc sc lc od : Nat) (D : DM) (m : WM) (n k : Nat) (K I : Int) (vb vk : Value) (hk : k ≤ 100) (hs : DS w0 w p b ww nb sb lb nc sc lc D m n k) (ho : Bl w od 33 [.int .i64 K, .int .i64 I, vb, vk])
    {Q : Exit → Act → World → Prop} (c1 c2 c3 c4 c5 c8 c9 c11 c12 c13 c14 c15 c16 c17 c18 c19 c20 c21 c22 c23 c24 c25 c26 c27 c28 c29 c30 c31 c32 c33 c34 c35 c36 c37 c38 c39 c40 c41 c42 c43 c44 c45 c46 c47 c48 c49 c50 c51 c52 c53 c54 c55 c56 c57 c58 c59 c60 c61 c62 c63 c64 c65 c66 c67 c68 c69 c70 c71 c72 c73 c74 c75 c77 c78 c79 c80 c81 c82 c83 c84 c85 c86 c87 c88 c89 c90 c91 c92 c93 c94 c95 c96 c97 c98 c99 c100 c101 c102 c103 c104 c105 c106 c107 c108 c109 c110 c111 c112 c113 c114 c115 c116 c117 c118 c119 c120 c121 c122 c123 c124 c125 c126 c127 c128 c129 c130 c131 c132 c133 c134 c135 c136 c137 c138 c139 c140 c141 c142 c143 c144 c145 c146 c147 c148 c149 : Value)
    (hQ : ∀ (p2 b2 : Nat) (D2 : DM) (m2 : WM) (w' : World) (u11 u12 u77 u78 u79 u80 u81 u82 u83 u84 u85 u86 u87 u88 u89 u90 u91 u92 u93 u94 u95 u96 u97 u98 u99 u100 u101 u102 u103 u104 u105 u106 u107 u108 u109 u110 u111 u112 u113 u114 u115 u116 u117 u118 u119 u120 u121 u122 u123 u124 u125 u126 u127 u128 u129 u130 u131 u132 u133 u134 u135 u136 u137 u138 u139 u140 u141 u142 u143 u144 u145 : Value), DS w0 w' p2 b2 ww nb sb lb nc sc lc D2 m2 n (k + 1) → Q .normal ⟨#[.int .i64 (n : Int), c1, c2, c3, c4, c5, .pointer (some ⟨p2, 0, none⟩), .pointer (some ⟨ww, 0, none⟩), c8, c9, .pointer (some ⟨od, 0, none⟩), u11, u12, c13, c14, c15, c16, c17, c18, c19, c20, c21, c22, c23, c24, c25, c26, c27, c28, c29, c30, c31, c32, c33, c34, c35, c36, c37, c38, c39, c40, c41, c42, c43, c44, c45, c46, c47, c48, c49, c50, c51, c52, c53, c54, c55, c56, c57, c58, c59, c60, c61, c62, c63, c64, c65, c66, c67, c68, c69, c70, c71, c72, c73, c74, c75, .int .i64 1, u77, u78, u79, u80, u81, u82, u83, u84, u85, u86, u87, u88, u89, u90, u91, u92, u93, u94, u95, u96, u97, u98, u99, u100, u101, u102, u103, u104, u105, u106, u107, u108, u109, u110, u111, u112, u113, u114, u115, u116, u117, u118, u119, u120, u121, u122, u123, u124, u125, u126, u127, u128, u129, u130, u131, u132, u133, u134, u135, u136, u137, u138, u139, u140, u141, u142, u143, u144, u145, c146, c147, c148, c149], []⟩ w') :
    Code.wp Try.prog (blk 4) Q ⟨#[.int .i64 (n : Int), c1, c2, c3, c4, c5, .pointer (some ⟨p, 0, none⟩), .pointer (some ⟨ww, 0, none⟩), c8, c9, .pointer (some ⟨od, 0, none⟩), c11, c12, c13, c14, c15, c16, c17, c18, c19, c20, c21, c22, c23, c24, c25, c26, c27, c28, c29, c30, c31, c32, c33, c34, c35, c36, c37, c38, c39, c40, c41, c42, c43, c44, c45, c46, c47, c48, c49, c50, c51, c52, c53, c54, c55, c56, c57, c58, c59, c60, c61, c62, c63, c64, c65, c66, c67, c68, c69, c70, c71, c72, c73, c74, c75, .int .i64 1, c77, c78, c79, c80, c81, c82, c83, c84, c85, c86, c87, c88, c89, c90, c91, c92, c93, c94, c95, c96, c97, c98, c99, c100, c101, c102, c103, c104, c105, c106, c107, c108, c109, c110, c111, c112, c113, c114, c115, c116, c117, c118, c119, c120, c121, c122, c123, c124, c125, c126, c127, c128, c129, c130, c131, c132, c133, c134, c135, c136, c137, c138, c139, c140, c141, c142, c143, c144, c145, c146, c147, c148, c149], []⟩ w := by
  have HQ := Lib.hid hQ
  have HS := Lib.hid hs
  have HO := Lib.hid ho
  have q1 : w.cell? ⟨od, 1, none⟩ = some (.int .i64 I) := ho.cell 1
  have q2 : w.cell? ⟨od, 2, none⟩ = some vb := ho.cell 2
  have q3 : w.cell? ⟨od, 3, none⟩ = some vk := ho.cell 3
  clear hQ hs ho
  clear q1 q2 q3
  have HWD := Lib.hid (wdead_c w ww nb sb lb nc sc lc m HS.out.wat)
  have hdd := HS.out.rel.mt.dead
  have hff := HS.out.fuse
  conv => arg 2; whnf
  cases hd : D.isDead
  · rw [hd] at hdd
    have HDD := Lib.hid hdd
    rw [← HDD.out] at HWD
    have HFL := Lib.hid (flushes_c w ww nb sb lb nc sc lc m HS.out.wat (by have := HS.out.mcalls; omega) hff.1 hff.2)
    have HD0 := Lib.hid hd
    clear hdd hd
    go_wp2_with (fail)
    refine HWD.out.mono ?_
    rintro e w' ⟨rfl, rfl⟩
    go_wp2_with (fail)
    refine HFL.out.mono ?_
    rintro e w1 ⟨rfl, hw1, f1⟩
    have hn1 := HS.out.dev_nes
    have hd1 := HS.out.dev.fr f1 (by simp; omega) (by simp; omega)
    have HFD := Lib.hid (flush_any w1 p b D hd1 (by have := HS.out.calls; omega))
    rw [HD0.out] at HFD
    have HW1 := Lib.hid hw1
    have F1 := Lib.hid f1
    clear hw1 f1 hd1
    go_wp2_with (fail)
    refine HFD.out.mono ?_
    rintro e w2 ⟨rfl, hd2, f2⟩
    have hrel := HS.out.rel.flush HD0.out
    have hfl : D.flushes = D.flush := by unfold DM.flushes; rw [HD0.out]; rfl
    rw [hfl] at hd2
    have hlo := HS.out.lo
    have hb1 : Below w0.heap.size w0 w1 := HS.out.bel.trans (F1.out.below HS.out.bel.size (by simp; omega))
    have hds1 : DS w0 w1 p b ww nb sb lb nc sc lc D m.flush n (k + 1) → True := fun _ => trivial
    have hS : ∀ j ∈ [p, b], ∃ t, Ty w1 j t ∧ t ≠ 5 := by
      intro j hj
      have hdv := HS.out.dev.fr F1.out (by simp; omega) (by simp; omega)
      simp only [List.mem_cons, List.not_mem_nil, or_false] at hj
      rcases hj with rfl | rfl
      · exact ⟨65, Ty.bl hdv.1, by decide⟩
      · exact ⟨69, Ty.bl hdv.2.1, by decide⟩
    have H2 : Hid (DS w0 w2 p b ww nb sb lb nc sc lc D.flush m.flush n (k + 1)) := ⟨hd2, HW1.out.fr f2 (by simp; omega) (by simp; omega) (by simp; omega) (by simp; omega) hS, hrel, by simp [DM.flush]; exact HS.out.len, by have := HS.out.calls; simp [DM.flush, DM.burned]; omega, hlo, hb1.trans (f2.below hb1.size (by simp; omega))⟩
    clear hd2 f2 hrel hfl hS hds1
    simp only [Bool.false_eq_true, if_false]
    go_wp2_with (fail)
    exact HQ.out p b _ _ _ _ _ _ _ _ _ _ _ _ _ _ _ _ _ _ _ _ _ _ _ _ _ _ _ _ _ _ _ _ _ _ _ _ _ _ _ _ _ _ _ _ _ _ _ _ _ _ _ _ _ _ _ _ _ _ _ _ _ _ _ _ _ _ _ _ _ _ _ _ _ _ H2.out
  · rw [hd] at hdd
    have HDD := Lib.hid hdd
    rw [← HDD.out] at HWD
    have HFD := Lib.hid (flush_any w p b D HS.out.dev (by have := HS.out.calls; omega))
    rw [hd] at HFD
    have hfl : D.flushes = D := by unfold DM.flushes; rw [hd]; rfl
    rw [hfl] at HFD
    clear hdd hd hfl
    go_wp2_with (fail)
    refine HWD.out.mono ?_
    rintro e w' ⟨rfl, rfl⟩
    go_wp2_with (fail)
    refine HFD.out.mono ?_
    rintro e w2 ⟨rfl, hd2, f2⟩
    have hlo := HS.out.lo
    have H2 : Hid (DS w0 w2 p b ww nb sb lb nc sc lc D m n (k + 1)) := ⟨hd2, HS.out.wat_dev f2, HS.out.rel, HS.out.len, by have := HS.out.calls; omega, hlo, HS.out.bel.trans (f2.below HS.out.bel.size (by simp; omega))⟩
    clear hd2 f2
    simp only [if_true]
    go_wp2_with (fail)
    exact HQ.out p b _ _ _ _ _ _ _ _ _ _ _ _ _ _ _ _ _ _ _ _ _ _ _ _ _ _ _ _ _ _ _ _ _ _ _ _ _ _ _ _ _ _ _ _ _ _ _ _ _ _ _ _ _ _ _ _ _ _ _ _ _ _ _ _ _ _ _ _ _ _ _ _ _ _ H2.out

set_option maxRecDepth 1000000 in
set_option maxHeartbeats 8000000 in
theorem devCrash (w0 w : World) (p b ww nb sb lb nc sc lc od : Nat) (D : DM) (m : WM) (n k : Nat) (K I : Int) (vb vk : Value) (kl : List Bool) (hvk : Sb w w0.heap.size vk kl) (hs : DS w0 w p b ww nb sb lb nc sc lc D m n k) (ho : Bl w od 33 [.int .i64 K, .int .i64 I, vb, vk])
    {Q : Exit → Act → World → Prop} (c1 c2 c3 c4 c5 c8 c9 c11 c12 c13 c14 c15 c16 c17 c18 c19 c20 c21 c22 c23 c24 c25 c26 c27 c28 c29 c30 c31 c32 c33 c34 c35 c36 c37 c38 c39 c40 c41 c42 c43 c44 c45 c46 c47 c48 c49 c50 c51 c52 c53 c54 c55 c56 c57 c58 c59 c60 c61 c62 c63 c64 c65 c66 c67 c68 c69 c70 c71 c72 c73 c74 c75 c77 c78 c79 c80 c81 c82 c83 c84 c85 c86 c87 c88 c89 c90 c91 c92 c93 c94 c95 c96 c97 c98 c99 c100 c101 c102 c103 c104 c105 c106 c107 c108 c109 c110 c111 c112 c113 c114 c115 c116 c117 c118 c119 c120 c121 c122 c123 c124 c125 c126 c127 c128 c129 c130 c131 c132 c133 c134 c135 c136 c137 c138 c139 c140 c141 c142 c143 c144 c145 c146 c147 c148 c149 : Value)
    (hQ : ∀ (p2 b2 : Nat) (D2 : DM) (m2 : WM) (w' : World) (u11 u12 u77 u78 u79 u80 u81 u82 u83 u84 u85 u86 u87 u88 u89 u90 u91 u92 u93 u94 u95 u96 u97 u98 u99 u100 u101 u102 u103 u104 u105 u106 u107 u108 u109 u110 u111 u112 u113 u114 u115 u116 u117 u118 u119 u120 u121 u122 u123 u124 u125 u126 u127 u128 u129 u130 u131 u132 u133 u134 u135 u136 u137 u138 u139 u140 u141 u142 u143 u144 u145 : Value), DS w0 w' p2 b2 ww nb sb lb nc sc lc D2 m2 n (k + 1) → Q .normal ⟨#[.int .i64 (n : Int), c1, c2, c3, c4, c5, .pointer (some ⟨p2, 0, none⟩), .pointer (some ⟨ww, 0, none⟩), c8, c9, .pointer (some ⟨od, 0, none⟩), u11, u12, c13, c14, c15, c16, c17, c18, c19, c20, c21, c22, c23, c24, c25, c26, c27, c28, c29, c30, c31, c32, c33, c34, c35, c36, c37, c38, c39, c40, c41, c42, c43, c44, c45, c46, c47, c48, c49, c50, c51, c52, c53, c54, c55, c56, c57, c58, c59, c60, c61, c62, c63, c64, c65, c66, c67, c68, c69, c70, c71, c72, c73, c74, c75, .int .i64 2, u77, u78, u79, u80, u81, u82, u83, u84, u85, u86, u87, u88, u89, u90, u91, u92, u93, u94, u95, u96, u97, u98, u99, u100, u101, u102, u103, u104, u105, u106, u107, u108, u109, u110, u111, u112, u113, u114, u115, u116, u117, u118, u119, u120, u121, u122, u123, u124, u125, u126, u127, u128, u129, u130, u131, u132, u133, u134, u135, u136, u137, u138, u139, u140, u141, u142, u143, u144, u145, c146, c147, c148, c149], []⟩ w') :
    Code.wp Try.prog (blk 4) Q ⟨#[.int .i64 (n : Int), c1, c2, c3, c4, c5, .pointer (some ⟨p, 0, none⟩), .pointer (some ⟨ww, 0, none⟩), c8, c9, .pointer (some ⟨od, 0, none⟩), c11, c12, c13, c14, c15, c16, c17, c18, c19, c20, c21, c22, c23, c24, c25, c26, c27, c28, c29, c30, c31, c32, c33, c34, c35, c36, c37, c38, c39, c40, c41, c42, c43, c44, c45, c46, c47, c48, c49, c50, c51, c52, c53, c54, c55, c56, c57, c58, c59, c60, c61, c62, c63, c64, c65, c66, c67, c68, c69, c70, c71, c72, c73, c74, c75, .int .i64 2, c77, c78, c79, c80, c81, c82, c83, c84, c85, c86, c87, c88, c89, c90, c91, c92, c93, c94, c95, c96, c97, c98, c99, c100, c101, c102, c103, c104, c105, c106, c107, c108, c109, c110, c111, c112, c113, c114, c115, c116, c117, c118, c119, c120, c121, c122, c123, c124, c125, c126, c127, c128, c129, c130, c131, c132, c133, c134, c135, c136, c137, c138, c139, c140, c141, c142, c143, c144, c145, c146, c147, c148, c149], []⟩ w := by
  have HQ := Lib.hid hQ
  have HS := Lib.hid hs
  have HO := Lib.hid ho
  have q1 : w.cell? ⟨od, 1, none⟩ = some (.int .i64 I) := ho.cell 1
  have q2 : w.cell? ⟨od, 2, none⟩ = some vb := ho.cell 2
  have q3 : w.cell? ⟨od, 3, none⟩ = some vk := ho.cell 3
  clear hQ hs ho
  clear q1 q2
  have HV := Lib.hid hvk
  obtain ⟨ak, ck, rfl, _⟩ := Sv.form hvk
  have HCR := Lib.hid (crash_c w p b D HS.out.dev w0.heap.size _ kl hvk HS.out.bel.size)
  clear hvk
  conv => arg 2; whnf
  go_wp2_with (fail)
  refine HCR.out.mono ?_
  rintro e w1 ⟨⟨p2, b2, rfl, hp2, hb2, hd1⟩, bel⟩
  have hz0 := HS.out.bel.size
  have hz1 := bel.size
  have HD1 := Lib.hid hd1
  have B1 := Lib.hid bel
  have hlo := HS.out.lo
  have hlt := HS.out.wat.lt
  have hw1 := HS.out.wat.keep (Fr.of_below bel)
  have HO1 := Lib.hid (HO.out.below bel HO.out.lt)
  have hv1 := Sv.below HV.out (Nat.le_refl _) bel hz0
  have q31 : w1.cell? ⟨od, 3, none⟩ = some (.slice ak kl.length ck) := HO1.out.cell 3
  have HWC := Lib.hid (crashes_c w1 ww nb sb lb nc sc lc m hw1 w0.heap.size _ kl hv1 (by omega) ⟨by omega, by omega, by omega, by omega⟩)
  clear hd1 bel hw1 hv1 q3
  go_wp2_with (fail)
  refine HWC.out.mono ?_
  rintro e w2 ⟨rfl, hw2, f2⟩
  have H2 : Hid (DS w0 w2 p2 b2 ww nb sb lb nc sc lc (D.crash kl) (m.crash kl) n (k + 1)) := ⟨HD1.out.fr f2 (by simp; omega) (by simp; omega), hw2, HS.out.rel.crash kl, by show (crashFrom D.secs 0 kl).length = n; rw [crashFrom_len]; exact HS.out.len, Nat.zero_le _, by omega, (HS.out.bel.trans (B1.out.mono (by omega))).trans (f2.below (by omega) (by simp; omega))⟩
  clear hw2 f2
  go_wp2_with (fail)
  exact HQ.out p2 b2 _ _ _ _ _ _ _ _ _ _ _ _ _ _ _ _ _ _ _ _ _ _ _ _ _ _ _ _ _ _ _ _ _ _ _ _ _ _ _ _ _ _ _ _ _ _ _ _ _ _ _ _ _ _ _ _ _ _ _ _ _ _ _ _ _ _ _ _ _ _ _ _ _ _ H2.out

set_option maxRecDepth 1000000 in
set_option maxHeartbeats 8000000 in
theorem devFuse (w0 w : World) (p b ww nb sb lb nc sc lc od : Nat) (D : DM) (m : WM) (n k : Nat) (K I : Int) (vb vk : Value) (hI : I64 I) (hK : K ≠ 0 ∧ K ≠ 1 ∧ K ≠ 2) (hs : DS w0 w p b ww nb sb lb nc sc lc D m n k) (ho : Bl w od 33 [.int .i64 K, .int .i64 I, vb, vk])
    {Q : Exit → Act → World → Prop} (c1 c2 c3 c4 c5 c8 c9 c11 c12 c13 c14 c15 c16 c17 c18 c19 c20 c21 c22 c23 c24 c25 c26 c27 c28 c29 c30 c31 c32 c33 c34 c35 c36 c37 c38 c39 c40 c41 c42 c43 c44 c45 c46 c47 c48 c49 c50 c51 c52 c53 c54 c55 c56 c57 c58 c59 c60 c61 c62 c63 c64 c65 c66 c67 c68 c69 c70 c71 c72 c73 c74 c75 c77 c78 c79 c80 c81 c82 c83 c84 c85 c86 c87 c88 c89 c90 c91 c92 c93 c94 c95 c96 c97 c98 c99 c100 c101 c102 c103 c104 c105 c106 c107 c108 c109 c110 c111 c112 c113 c114 c115 c116 c117 c118 c119 c120 c121 c122 c123 c124 c125 c126 c127 c128 c129 c130 c131 c132 c133 c134 c135 c136 c137 c138 c139 c140 c141 c142 c143 c144 c145 c146 c147 c148 c149 : Value)
    (hQ : ∀ (p2 b2 : Nat) (D2 : DM) (m2 : WM) (w' : World) (u11 u12 u77 u78 u79 u80 u81 u82 u83 u84 u85 u86 u87 u88 u89 u90 u91 u92 u93 u94 u95 u96 u97 u98 u99 u100 u101 u102 u103 u104 u105 u106 u107 u108 u109 u110 u111 u112 u113 u114 u115 u116 u117 u118 u119 u120 u121 u122 u123 u124 u125 u126 u127 u128 u129 u130 u131 u132 u133 u134 u135 u136 u137 u138 u139 u140 u141 u142 u143 u144 u145 : Value), DS w0 w' p2 b2 ww nb sb lb nc sc lc D2 m2 n (k + 1) → Q .normal ⟨#[.int .i64 (n : Int), c1, c2, c3, c4, c5, .pointer (some ⟨p2, 0, none⟩), .pointer (some ⟨ww, 0, none⟩), c8, c9, .pointer (some ⟨od, 0, none⟩), u11, u12, c13, c14, c15, c16, c17, c18, c19, c20, c21, c22, c23, c24, c25, c26, c27, c28, c29, c30, c31, c32, c33, c34, c35, c36, c37, c38, c39, c40, c41, c42, c43, c44, c45, c46, c47, c48, c49, c50, c51, c52, c53, c54, c55, c56, c57, c58, c59, c60, c61, c62, c63, c64, c65, c66, c67, c68, c69, c70, c71, c72, c73, c74, c75, .int .i64 K, u77, u78, u79, u80, u81, u82, u83, u84, u85, u86, u87, u88, u89, u90, u91, u92, u93, u94, u95, u96, u97, u98, u99, u100, u101, u102, u103, u104, u105, u106, u107, u108, u109, u110, u111, u112, u113, u114, u115, u116, u117, u118, u119, u120, u121, u122, u123, u124, u125, u126, u127, u128, u129, u130, u131, u132, u133, u134, u135, u136, u137, u138, u139, u140, u141, u142, u143, u144, u145, c146, c147, c148, c149], []⟩ w') :
    Code.wp Try.prog (blk 4) Q ⟨#[.int .i64 (n : Int), c1, c2, c3, c4, c5, .pointer (some ⟨p, 0, none⟩), .pointer (some ⟨ww, 0, none⟩), c8, c9, .pointer (some ⟨od, 0, none⟩), c11, c12, c13, c14, c15, c16, c17, c18, c19, c20, c21, c22, c23, c24, c25, c26, c27, c28, c29, c30, c31, c32, c33, c34, c35, c36, c37, c38, c39, c40, c41, c42, c43, c44, c45, c46, c47, c48, c49, c50, c51, c52, c53, c54, c55, c56, c57, c58, c59, c60, c61, c62, c63, c64, c65, c66, c67, c68, c69, c70, c71, c72, c73, c74, c75, .int .i64 K, c77, c78, c79, c80, c81, c82, c83, c84, c85, c86, c87, c88, c89, c90, c91, c92, c93, c94, c95, c96, c97, c98, c99, c100, c101, c102, c103, c104, c105, c106, c107, c108, c109, c110, c111, c112, c113, c114, c115, c116, c117, c118, c119, c120, c121, c122, c123, c124, c125, c126, c127, c128, c129, c130, c131, c132, c133, c134, c135, c136, c137, c138, c139, c140, c141, c142, c143, c144, c145, c146, c147, c148, c149], []⟩ w := by
  have HQ := Lib.hid hQ
  have HS := Lib.hid hs
  have HO := Lib.hid ho
  have q1 : w.cell? ⟨od, 1, none⟩ = some (.int .i64 I) := ho.cell 1
  have q2 : w.cell? ⟨od, 2, none⟩ = some vb := ho.cell 2
  have q3 : w.cell? ⟨od, 3, none⟩ = some vk := ho.cell 3
  clear hQ hs ho
  clear q2 q3
  unfold I64 at hI
  have d0 : (K == 0) = false := by simpa using hK.1
  have d1 : (K == 1) = false := by simpa using hK.2.1
  have d2 : (K == 2) = false := by simpa using hK.2.2
  have HFU := Lib.hid (fuse_c w p b D HS.out.dev I hI)
  conv => arg 2; whnf
  go_wp2_with (fail)
  refine HFU.out.mono ?_
  rintro e w1 ⟨rfl, hd1, f1⟩
  have hz0 := HS.out.bel.size
  have hlo := HS.out.lo
  have hw1 := HS.out.wat_dev (f1.mono (by simp))
  have hnn := HS.out.dev_nes
  have hop : od ≠ p := (Ty.bl HO.out).ne (Ty.bl HS.out.dev.1) (by decide)
  have HO1 := Lib.hid (HO.out.fr f1 (by simpa using hop))
  have q11 : w1.cell? ⟨od, 1, none⟩ = some (.int .i64 I) := HO1.out.cell 1
  have HWD := Lib.hid (wdead_c w1 ww nb sb lb nc sc lc m hw1)
  have hrel := HS.out.rel.fused I
  have hbel := HS.out.bel.trans (f1.below hz0 (by simp; omega))
  have hlen : (D.fused I).secs.length = n := HS.out.len
  have hcal : (D.fused I).calls ≤ k + 1 := by have := HS.out.calls; show D.calls ≤ k + 1; omega
  cases hd : m.isDead
  · have hfu : m.fused I = { m with fuse := max (-1) I } := by unfold WM.fused; rw [hd]; rfl
    rw [hfu] at hrel
    rw [hd] at HWD
    have c4 := hw1.head.cell 4
    have c4' : w1.cell? ⟨ww, 4, none⟩ = some (.int .i64 m.fuse) := c4
    have f4 := hw1.head.free 4
    have hend := hw1.end_ m.calls (max (-1) I) (hw1.head.set 4 (.int .i64 (max (-1) I))) ((Fr.refl [ww] w1).setCell (by simp) _)
    have hd2 := hd1.fr ((Fr.refl [ww] w1).setCell (p := ⟨ww, 4, none⟩) (by simp) (.int .i64 (max (-1) I))) (by simp; omega) (by simp; omega)
    have H2 : Hid (DS w0 (w1.setCell ⟨ww, 4, none⟩ (.int .i64 (max (-1) I))) p b ww nb sb lb nc sc lc (D.fused I) { m with fuse := max (-1) I } n (k + 1)) := ⟨hd2, hend, hrel, hlen, hcal, hlo, hbel.setCell (by simp; omega) _⟩
    clear hend hd1 hd2 hw1 hrel hbel c4 f1 hfu hd
    by_cases hI1 : -1 < I
    · have hmx : max (-1) I = I := by omega
      rw [hmx] at H2
      clear hmx
      go_wp2_with (fail)
      refine HWD.out.mono ?_
      rintro e w' ⟨rfl, rfl⟩
      go_wp2_with (fail)
      exact HQ.out p b _ _ _ _ _ _ _ _ _ _ _ _ _ _ _ _ _ _ _ _ _ _ _ _ _ _ _ _ _ _ _ _ _ _ _ _ _ _ _ _ _ _ _ _ _ _ _ _ _ _ _ _ _ _ _ _ _ _ _ _ _ _ _ _ _ _ _ _ _ _ _ _ _ _ H2.out
    · have hmx : max (-1) I = -1 := by omega
      rw [hmx] at H2
      clear hmx
      go_wp2_with (fail)
      refine HWD.out.mono ?_
      rintro e w' ⟨rfl, rfl⟩
      go_wp2_with (fail)
      exact HQ.out p b _ _ _ _ _ _ _ _ _ _ _ _ _ _ _ _ _ _ _ _ _ _ _ _ _ _ _ _ _ _ _ _ _ _ _ _ _ _ _ _ _ _ _ _ _ _ _ _ _ _ _ _ _ _ _ _ _ _ _ _ _ _ _ _ _ _ _ _ _ _ _ _ _ _ H2.out
  · have hfu : m.fused I = m := by unfold WM.fused; rw [hd]; rfl
    rw [hfu] at hrel
    rw [hd] at HWD
    have H2 : Hid (DS w0 w1 p b ww nb sb lb nc sc lc (D.fused I) m n (k + 1)) := ⟨hd1, hw1, hrel, hlen, hcal, hlo, hbel⟩
    clear hd1 hw1 hrel hbel f1 hfu hd
    go_wp2_with (fail)
    refine HWD.out.mono ?_
    rintro e w' ⟨rfl, rfl⟩
    go_wp2_with (fail)
    exact HQ.out p b _ _ _ _ _ _ _ _ _ _ _ _ _ _ _ _ _ _ _ _ _ _ _ _ _ _ _ _ _ _ _ _ _ _ _ _ _ _ _ _ _ _ _ _ _ _ _ _ _ _ _ _ _ _ _ _ _ _ _ _ _ _ _ _ _ _ _ _ _ _ _ _ _ _ H2.out

set_option maxRecDepth 1000000 in
set_option maxHeartbeats 8000000 in
theorem devWrite (w0 w : World) (p b ww nb sb lb nc sc lc od : Nat) (D : DM) (m : WM) (n k : Nat) (K I : Int) (vb vk : Value) (hk : k ≤ 100) (l : List UInt8) (hv : Sl w w0.heap.size vb l) (hs : DS w0 w p b ww nb sb lb nc sc lc D m n k) (ho : Bl w od 33 [.int .i64 K, .int .i64 I, vb, vk])
    {Q : Exit → Act → World → Prop} (c1 c2 c3 c4 c5 c8 c9 c11 c12 c13 c14 c15 c16 c17 c18 c19 c20 c21 c22 c23 c24 c25 c26 c27 c28 c29 c30 c31 c32 c33 c34 c35 c36 c37 c38 c39 c40 c41 c42 c43 c44 c45 c46 c47 c48 c49 c50 c51 c52 c53 c54 c55 c56 c57 c58 c59 c60 c61 c62 c63 c64 c65 c66 c67 c68 c69 c70 c71 c72 c73 c74 c75 c77 c78 c79 c80 c81 c82 c83 c84 c85 c86 c87 c88 c89 c90 c91 c92 c93 c94 c95 c96 c97 c98 c99 c100 c101 c102 c103 c104 c105 c106 c107 c108 c109 c110 c111 c112 c113 c114 c115 c116 c117 c118 c119 c120 c121 c122 c123 c124 c125 c126 c127 c128 c129 c130 c131 c132 c133 c134 c135 c136 c137 c138 c139 c140 c141 c142 c143 c144 c145 c146 c147 c148 c149 : Value)
    (hQ : ∀ (p2 b2 : Nat) (D2 : DM) (m2 : WM) (w' : World) (u11 u12 u77 u78 u79 u80 u81 u82 u83 u84 u85 u86 u87 u88 u89 u90 u91 u92 u93 u94 u95 u96 u97 u98 u99 u100 u101 u102 u103 u104 u105 u106 u107 u108 u109 u110 u111 u112 u113 u114 u115 u116 u117 u118 u119 u120 u121 u122 u123 u124 u125 u126 u127 u128 u129 u130 u131 u132 u133 u134 u135 u136 u137 u138 u139 u140 u141 u142 u143 u144 u145 : Value), DS w0 w' p2 b2 ww nb sb lb nc sc lc D2 m2 n (k + 1) → Q .normal ⟨#[.int .i64 (n : Int), c1, c2, c3, c4, c5, .pointer (some ⟨p2, 0, none⟩), .pointer (some ⟨ww, 0, none⟩), c8, c9, .pointer (some ⟨od, 0, none⟩), u11, u12, c13, c14, c15, c16, c17, c18, c19, c20, c21, c22, c23, c24, c25, c26, c27, c28, c29, c30, c31, c32, c33, c34, c35, c36, c37, c38, c39, c40, c41, c42, c43, c44, c45, c46, c47, c48, c49, c50, c51, c52, c53, c54, c55, c56, c57, c58, c59, c60, c61, c62, c63, c64, c65, c66, c67, c68, c69, c70, c71, c72, c73, c74, c75, .int .i64 0, u77, u78, u79, u80, u81, u82, u83, u84, u85, u86, u87, u88, u89, u90, u91, u92, u93, u94, u95, u96, u97, u98, u99, u100, u101, u102, u103, u104, u105, u106, u107, u108, u109, u110, u111, u112, u113, u114, u115, u116, u117, u118, u119, u120, u121, u122, u123, u124, u125, u126, u127, u128, u129, u130, u131, u132, u133, u134, u135, u136, u137, u138, u139, u140, u141, u142, u143, u144, u145, c146, c147, c148, c149], []⟩ w') :
    Code.wp Try.prog (blk 4) Q ⟨#[.int .i64 (n : Int), c1, c2, c3, c4, c5, .pointer (some ⟨p, 0, none⟩), .pointer (some ⟨ww, 0, none⟩), c8, c9, .pointer (some ⟨od, 0, none⟩), c11, c12, c13, c14, c15, c16, c17, c18, c19, c20, c21, c22, c23, c24, c25, c26, c27, c28, c29, c30, c31, c32, c33, c34, c35, c36, c37, c38, c39, c40, c41, c42, c43, c44, c45, c46, c47, c48, c49, c50, c51, c52, c53, c54, c55, c56, c57, c58, c59, c60, c61, c62, c63, c64, c65, c66, c67, c68, c69, c70, c71, c72, c73, c74, c75, .int .i64 0, c77, c78, c79, c80, c81, c82, c83, c84, c85, c86, c87, c88, c89, c90, c91, c92, c93, c94, c95, c96, c97, c98, c99, c100, c101, c102, c103, c104, c105, c106, c107, c108, c109, c110, c111, c112, c113, c114, c115, c116, c117, c118, c119, c120, c121, c122, c123, c124, c125, c126, c127, c128, c129, c130, c131, c132, c133, c134, c135, c136, c137, c138, c139, c140, c141, c142, c143, c144, c145, c146, c147, c148, c149], []⟩ w := by
  have HQ := Lib.hid hQ
  have HS := Lib.hid hs
  have HO := Lib.hid ho
  have q1 : w.cell? ⟨od, 1, none⟩ = some (.int .i64 I) := ho.cell 1
  have q2 : w.cell? ⟨od, 2, none⟩ = some vb := ho.cell 2
  have q3 : w.cell? ⟨od, 3, none⟩ = some vk := ho.cell 3
  clear hQ hs ho
  clear q3
  have HV := Lib.hid hv
  obtain ⟨av, cv, rfl, _⟩ := Sv.form hv
  have HWR := write_any w p b D HS.out.dev (by have := HS.out.calls; omega) I w0.heap.size _ l hv
  have HWD := Lib.hid (wdead_c w ww nb sb lb nc sc lc m HS.out.wat)
  have hdd := HS.out.rel.mt.dead
  have hlo := HS.out.lo
  rw [← hdd] at HWD
  clear hv hdd
  conv => arg 2; whnf
  cases hd : D.isDead
  · rw [hd] at HWD
    have hd0 := Lib.hid hd
    clear hd
    by_cases k1 : I < 0
    · skip
      have hwc : D.wcode I l.length = 3 := by
        unfold DM.wcode
        rw [hd0.out, if_neg (by decide), if_pos (.inl k1)]
      have hws : D.writes I l = D := by unfold DM.writes; rw [hwc]; rfl
      rw [hwc, hws] at HWR
      have HWR := Lib.hid HWR
      clear hwc hws
      go_wp2_with (fail)
      refine HWD.out.mono ?_
      rintro e w' ⟨rfl, rfl⟩
      go_wp2_with (fail)
      refine HWR.out.mono ?_
      rintro e w2 ⟨rfl, hd2, f2⟩
      have H2 : Hid (DS w0 w2 p b ww nb sb lb nc sc lc D m n (k + 1)) := ⟨hd2, HS.out.wat_dev f2, HS.out.rel, HS.out.len, by have := HS.out.calls; omega, hlo, HS.out.bel.trans (f2.below HS.out.bel.size (by simp; omega))⟩
      clear hd2 f2
      go_wp2_with (fail)
      exact HQ.out p b _ _ _ _ _ _ _ _ _ _ _ _ _ _ _ _ _ _ _ _ _ _ _ _ _ _ _ _ _ _ _ _ _ _ _ _ _ _ _ _ _ _ _ _ _ _ _ _ _ _ _ _ _ _ _ _ _ _ _ _ _ _ _ _ _ _ _ _ _ _ _ _ _ _ H2.out

    by_cases k2 : (n : Int) ≤ I
    · skip
      have hwc : D.wcode I l.length = 3 := by
        unfold DM.wcode
        rw [hd0.out, if_neg (by decide), if_pos (.inr (by rw [HS.out.len]; exact k2))]
      have hws : D.writes I l = D := by unfold DM.writes; rw [hwc]; rfl
      rw [hwc, hws] at HWR
      have HWR := Lib.hid HWR
      clear hwc hws
      go_wp2_with (fail)
      refine HWD.out.mono ?_
      rintro e w' ⟨rfl, rfl⟩
      go_wp2_with (fail)
      refine HWR.out.mono ?_
      rintro e w2 ⟨rfl, hd2, f2⟩
      have H2 : Hid (DS w0 w2 p b ww nb sb lb nc sc lc D m n (k + 1)) := ⟨hd2, HS.out.wat_dev f2, HS.out.rel, HS.out.len, by have := HS.out.calls; omega, hlo, HS.out.bel.trans (f2.below HS.out.bel.size (by simp; omega))⟩
      clear hd2 f2
      go_wp2_with (fail)
      exact HQ.out p b _ _ _ _ _ _ _ _ _ _ _ _ _ _ _ _ _ _ _ _ _ _ _ _ _ _ _ _ _ _ _ _ _ _ _ _ _ _ _ _ _ _ _ _ _ _ _ _ _ _ _ _ _ _ _ _ _ _ _ _ _ _ _ _ _ _ _ _ _ _ _ _ _ _ H2.out

    by_cases k3 : 64 < l.length
    · have k3i : (64 : Int) < (l.length : Int) := by omega
      have hwc : D.wcode I l.length = 1 := by
        unfold DM.wcode
        rw [hd0.out, if_neg (by decide), if_neg (by rw [HS.out.len]; omega), if_pos k3]
      have hws : D.writes I l = D := by unfold DM.writes; rw [hwc]; rfl
      rw [hwc, hws] at HWR
      have HWR := Lib.hid HWR
      clear hwc hws
      go_wp2_with (fail)
      refine HWD.out.mono ?_
      rintro e w' ⟨rfl, rfl⟩
      go_wp2_with (fail)
      refine HWR.out.mono ?_
      rintro e w2 ⟨rfl, hd2, f2⟩
      have H2 : Hid (DS w0 w2 p b ww nb sb lb nc sc lc D m n (k + 1)) := ⟨hd2, HS.out.wat_dev f2, HS.out.rel, HS.out.len, by have := HS.out.calls; omega, hlo, HS.out.bel.trans (f2.below HS.out.bel.size (by simp; omega))⟩
      clear hd2 f2
      go_wp2_with (fail)
      exact HQ.out p b _ _ _ _ _ _ _ _ _ _ _ _ _ _ _ _ _ _ _ _ _ _ _ _ _ _ _ _ _ _ _ _ _ _ _ _ _ _ _ _ _ _ _ _ _ _ _ _ _ _ _ _ _ _ _ _ _ _ _ _ _ _ _ _ _ _ _ _ _ _ _ _ _ _ H2.out

    have k3i : (l.length : Int) ≤ 64 := by omega
    have k1i : 0 ≤ I := by omega
    have k2i : I < (n : Int) := by omega
    have hwc : D.wcode I l.length = 0 := by
      unfold DM.wcode
      rw [hd0.out, if_neg (by decide), if_neg (by rw [HS.out.len]; omega), if_neg (by omega)]
    have hws : D.writes I l = D.write I.toNat l := by unfold DM.writes; rw [hwc]; rfl
    rw [hwc, hws] at HWR
    have HWR := Lib.hid HWR
    obtain ⟨i, rfl⟩ : ∃ i : Nat, I = (i : Int) := ⟨I.toNat, by omega⟩
    rw [Int.toNat_natCast] at HWR
    clear hwc hws
    go_wp2_with (fail)
    refine HWD.out.mono ?_
    rintro e w' ⟨rfl, rfl⟩
    go_wp2_with (fail)
    refine HWR.out.mono ?_
    rintro e w2 ⟨rfl, hd2, f2⟩
    have hw2 := HS.out.wat_dev f2
    have hz2 := f2.size
    have hb2 := HS.out.bel.trans (f2.below HS.out.bel.size (by simp; omega))
    have hop : od ≠ p := (Ty.bl HO.out).ne (Ty.bl HS.out.dev.1) (by decide)
    have hob : od ≠ b := (Ty.bl HO.out).ne (Ty.bl HS.out.dev.2.1) (by decide)
    have HO2 := Lib.hid (HO.out.fr f2 (by simp; omega))
    have q12 : w2.cell? ⟨od, 1, none⟩ = some (.int .i64 (i : Int)) := HO2.out.cell 1
    have q22 : w2.cell? ⟨od, 2, none⟩ = some (.slice av l.length cv) := HO2.out.cell 2
    have hv2 := Sv.below HV.out (Nat.le_refl _) (f2.below (B := w0.heap.size) HS.out.bel.size (by simp; omega)) (Nat.le_refl _)
    have hnn := HS.out.dev_nes
    have hff := HS.out.fuse
    have HWW := Lib.hid (writes_c w2 ww nb sb lb nc sc lc m hw2 (by have := HS.out.mcalls; omega) hff.1 hff.2 i (by rw [HS.out.mlen]; omega) _ l (by omega) w0.heap.size hv2 (by have := HS.out.bel.size; omega))
    have HD2 := Lib.hid hd2
    have HB2 := Lib.hid hb2
    clear hd2 f2 hw2 hv2 hb2 q1 q2
    go_wp2_with (fail)
    refine HWW.out.mono ?_
    rintro e w3 ⟨rfl, hw3, f3⟩
    have H2 : Hid (DS w0 w3 p b ww nb sb lb nc sc lc (D.write i l) (m.write i l) n (k + 1)) := ⟨HD2.out.fr f3 (by simp; omega) (by simp; omega), hw3, HS.out.rel.write hd0.out i (by rw [HS.out.len]; omega) l, by simp [DM.write]; exact HS.out.len, by have := HS.out.calls; simp [DM.write, DM.burned]; omega, hlo, HB2.out.trans (f3.below HB2.out.size (by simp; omega))⟩
    clear hw3 f3
    go_wp2_with (fail)
    exact HQ.out p b _ _ _ _ _ _ _ _ _ _ _ _ _ _ _ _ _ _ _ _ _ _ _ _ _ _ _ _ _ _ _ _ _ _ _ _ _ _ _ _ _ _ _ _ _ _ _ _ _ _ _ _ _ _ _ _ _ _ _ _ _ _ _ _ _ _ _ _ _ _ _ _ _ _ H2.out
  · rw [hd] at HWD
    have hd0 := Lib.hid hd
    clear hd
    have hwc : D.wcode I l.length = 7 := by
      unfold DM.wcode
      rw [hd0.out, if_pos rfl]
    have hws : D.writes I l = D := by unfold DM.writes; rw [hwc]; rfl
    rw [hwc, hws] at HWR
    have HWR := Lib.hid HWR
    clear hwc hws
    go_wp2_with (fail)
    refine HWD.out.mono ?_
    rintro e w' ⟨rfl, rfl⟩
    go_wp2_with (fail)
    refine HWR.out.mono ?_
    rintro e w2 ⟨rfl, hd2, f2⟩
    have H2 : Hid (DS w0 w2 p b ww nb sb lb nc sc lc D m n (k + 1)) := ⟨hd2, HS.out.wat_dev f2, HS.out.rel, HS.out.len, by have := HS.out.calls; omega, hlo, HS.out.bel.trans (f2.below HS.out.bel.size (by simp; omega))⟩
    clear hd2 f2
    go_wp2_with (fail)
    exact HQ.out p b _ _ _ _ _ _ _ _ _ _ _ _ _ _ _ _ _ _ _ _ _ _ _ _ _ _ _ _ _ _ _ _ _ _ _ _ _ _ _ _ _ _ _ _ _ _ _ _ _ _ _ _ _ _ _ _ _ _ _ _ _ _ _ _ _ _ _ _ _ _ _ _ _ _ H2.out

end Go.Proofs.Ytchibinlcedjaaa