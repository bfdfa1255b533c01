import Derived.Test.YtchibinlcedjaaaG2
namespace Go.Proofs.Ytchibinlcedjaaa
open Go.RowKit
set_option maxRecDepth 1000000 in
set_option maxHeartbeats 8000000 in
theorem part3 (w0 w : World) (p b ww nb sb lb nc sc lc : Nat) (D : DM) (m : WM) (n k : Nat) (hk : k ≤ 100) (hs : DS w0 w p b ww nb sb lb nc sc lc D m n k) (K I : Int) (hI : I64 I) (ob oo len cap j : Nat) (hj : j < len) (vb vk : Value)
    (o0 : w.cell? ⟨ob, oo + j * 4, none⟩ = some (.int .i64 K)) (o1 : w.cell? ⟨ob, oo + j * 4 + 1, none⟩ = some (.int .i64 I)) (o2 : w.cell? ⟨ob, oo + j * 4 + 2, none⟩ = some vb) (o3 : w.cell? ⟨ob, oo + j * 4 + 3, none⟩ = some vk)
    (l : List UInt8) (hvb : Sl w w0.heap.size vb l) (kl : List Bool) (hvk : Sb w w0.heap.size vk kl)
    {Q : Exit → Act → World → Prop} (c2 c3 c4 c5 c8 c10 c11 c12 c13 c14 c15 c16 c17 c18 c19 c20 c21 c22 c23 c24 c25 c26 c27 c28 c29 c30 c31 c32 c33 c34 c35 c36 c37 c38 c39 c40 c41 c42 c43 c44 c45 c46 c47 c48 c49 c50 c51 c52 c53 c54 c55 c56 c57 c58 c59 c60 c61 c62 c63 c64 c65 c66 c67 c68 c69 c70 c71 c72 c73 c74 c75 c76 c77 c78 c79 c80 c81 c82 c83 c84 c85 c86 c87 c88 c89 c90 c91 c92 c93 c94 c95 c96 c97 c98 c99 c100 c101 c102 c103 c104 c105 c106 c107 c108 c109 c110 c111 c112 c113 c114 c115 c116 c117 c118 c119 c120 c121 c122 c123 c124 c125 c126 c127 c128 c129 c130 c131 c132 c133 c134 c135 c136 c137 c138 c139 c140 c141 c142 c143 c144 c145 c146 c147 c148 c149 : Value)
    (hQ : ∀ (p2 b2 : Nat) (D2 : DM) (m2 : WM) (w' : World) (u10 u11 u12 u67 u68 u69 u70 u71 u72 u73 u74 u75 u76 u77 u78 u79 u80 u81 u82 u83 u84 u85 u86 u87 u88 u89 u90 u91 u92 u93 u94 u95 u96 u97 u98 u99 u100 u101 u102 u103 u104 u105 u106 u107 u108 u109 u110 u111 u112 u113 u114 u115 u116 u117 u118 u119 u120 u121 u122 u123 u124 u125 u126 u127 u128 u129 u130 u131 u132 u133 u134 u135 u136 u137 u138 u139 u140 u141 u142 u143 u144 u145 u146 u147 u148 u149 : Value), DS w0 w' p2 b2 ww nb sb lb nc sc lc D2 m2 n (k + 1) → Q .normal ⟨#[.int .i64 (n : Int), .slice (some ⟨ob, oo, none⟩) len cap, c2, c3, c4, c5, .pointer (some ⟨p2, 0, none⟩), .pointer (some ⟨ww, 0, none⟩), c8, .int .i64 (j : Int), u10, u11, u12, c13, c14, c15, c16, c17, c18, c19, c20, c21, c22, c23, c24, c25, c26, c27, c28, c29, c30, c31, c32, c33, c34, c35, c36, c37, c38, c39, c40, c41, c42, c43, c44, c45, c46, c47, c48, c49, c50, c51, c52, c53, c54, c55, c56, c57, c58, c59, c60, c61, c62, c63, c64, c65, c66, u67, u68, u69, u70, u71, u72, u73, u74, u75, u76, u77, u78, u79, u80, u81, u82, u83, u84, u85, u86, u87, u88, u89, u90, u91, u92, u93, u94, u95, u96, u97, u98, u99, u100, u101, u102, u103, u104, u105, u106, u107, u108, u109, u110, u111, u112, u113, u114, u115, u116, u117, u118, u119, u120, u121, u122, u123, u124, u125, u126, u127, u128, u129, u130, u131, u132, u133, u134, u135, u136, u137, u138, u139, u140, u141, u142, u143, u144, u145, u146, u147, u148, u149], []⟩ w') :
    Code.wp Try.prog (blk 3) Q ⟨#[.int .i64 (n : Int), .slice (some ⟨ob, oo, none⟩) len cap, c2, c3, c4, c5, .pointer (some ⟨p, 0, none⟩), .pointer (some ⟨ww, 0, none⟩), c8, .int .i64 (j : Int), c10, c11, c12, c13, c14, c15, c16, c17, c18, c19, c20, c21, c22, c23, c24, c25, c26, c27, c28, c29, c30, c31, c32, c33, c34, c35, c36, c37, c38, c39, c40, c41, c42, c43, c44, c45, c46, c47, c48, c49, c50, c51, c52, c53, c54, c55, c56, c57, c58, c59, c60, c61, c62, c63, c64, c65, c66, c67, c68, c69, c70, c71, c72, c73, c74, c75, c76, c77, c78, c79, c80, c81, c82, c83, c84, c85, c86, c87, c88, c89, c90, c91, c92, c93, c94, c95, c96, c97, c98, c99, c100, c101, c102, c103, c104, c105, c106, c107, c108, c109, c110, c111, c112, c113, c114, c115, c116, c117, c118, c119, c120, c121, c122, c123, c124, c125, c126, c127, c128, c129, c130, c131, c132, c133, c134, c135, c136, c137, c138, c139, c140, c141, c142, c143, c144, c145, c146, c147, c148, c149], []⟩ w := by
  have HQ := Lib.hid hQ
  have HS := Lib.hid hs
  have i4 : (j : Int) < (len : Int) := by omega
  have HB := Lib.hid hvb
  have HK := Lib.hid hvk
  obtain ⟨ab, cb, rfl, _⟩ := Sv.form hvb
  obtain ⟨ak, ck, rfl, _⟩ := Sv.form hvk
  clear hQ hs hvb hvk
  conv => arg 2; whnf
  go_upto_region 15 with (fail)
  have hop : Bl (w.alloc (.cells #[.int .i64 K, .int .i64 I, .slice ab l.length cb, .slice ak kl.length ck] 33)) w.heap.size 33 [.int .i64 K, .int .i64 I, .slice ab l.length cb, .slice ak kl.length ck] := Bl.new _ _ _
  have F5 := Lib.hid ((Fr.refl [] w).alloc (.cells #[.int .i64 K, .int .i64 I, .slice ab l.length cb, .slice ak kl.length ck] 33))
  have hodlt := HS.out.bel.size
  generalize w.alloc (.cells #[.int .i64 K, .int .i64 I, .slice ab l.length cb, .slice ak kl.length ck] 33) = w5 at *
  have hod : w0.heap.size ≤ w.heap.size := hodlt
  have hlow : ∀ x, w0.heap.size ≤ x → True := fun _ _ => trivial
  obtain ⟨od, hode⟩ : ∃ od, od = w.heap.size := ⟨_, rfl⟩
  have hb5 := Sv.below HB.out (Nat.le_refl _) F5.out.nil hod
  have hk5 := Sv.below HK.out (Nat.le_refl _) F5.out.nil hod
  have hs5 := HS.out.keep F5.out
  rw [← hode] at hop ⊢
  clear o0 o1 o2 o3 HS HB HK hlow
  have c2 : w5.cell? ⟨od, 2, none⟩ = some (.slice ab l.length cb) := hop.cell 2
  have f2 := hop.free 2
  have HSH := Lib.hid (short_c _ l 70 w5 w0.heap.size hb5 (by decide))
  have HOP := Lib.hid hop
  have HS5 := Lib.hid hs5
  have HK5 := Lib.hid hk5
  have hoo : w0.heap.size ≤ od := by omega
  have hodn : p ≠ od ∧ b ≠ od ∧ ww ≠ od ∧ nb ≠ od ∧ sb ≠ od ∧ lb ≠ od := ⟨(Ty.bl hs5.dev.1).ne (Ty.bl hop) (by decide), (Ty.bl hs5.dev.2.1).ne (Ty.bl hop) (by decide), (Ty.bl hs5.wat.head).ne (Ty.bl hop) (by decide), hs5.wat.now.ty.ne (Ty.bl hop) (by decide), hs5.wat.safe.ty.ne (Ty.bl hop) (by decide), (Ty.own hs5.wat.loose).ne (Ty.bl hop) (by decide)⟩
  clear hop hs5 hb5 hk5 F5 hode hod hodlt
  go_wp2_with (fail)
  refine HSH.out.mono ?_
  rintro e w' ⟨⟨v2, rfl, hv2⟩, rfl⟩
  obtain ⟨l2, hl2⟩ : ∃ l2, l.take 70 = l2 := ⟨_, rfl⟩
  rw [hl2] at hv2
  obtain ⟨a2, cc2, rfl, _⟩ := Sv.form hv2
  have ho6 := HOP.out.set 2 (.slice a2 l2.length cc2)
  have fr6 : Fr [od] w5 (w5.setCell ⟨od, 2, none⟩ (.slice a2 l2.length cc2)) := (Fr.refl [od] w5).setCell (by simp) _
  have hb6 : Below w0.heap.size w5 (w5.setCell ⟨od, 2, none⟩ (.slice a2 l2.length cc2)) := fr6.below HS5.out.bel.size (by simp; omega)
  have hs6 : DS w0 (w5.setCell ⟨od, 2, none⟩ (.slice a2 l2.length cc2)) p b ww nb sb lb nc sc lc D m n k := ⟨HS5.out.dev.fr fr6 (by simp; omega) (by simp; omega), HS5.out.wat.fr fr6 (by simp; omega) (by simp; omega) (by simp; omega) (by simp; omega) (one_block (Ty.bl HOP.out) (by decide)), HS5.out.rel, HS5.out.len, HS5.out.calls, HS5.out.lo, HS5.out.bel.trans hb6⟩
  have hv6 := Sv.below hv2 (Nat.le_refl _) hb6 (Nat.le_refl _)
  have hk6 := Sv.below HK5.out (Nat.le_refl _) hb6 (Nat.le_refl _)
  have HO6 := Lib.hid ho6
  have HS6 := Lib.hid hs6
  have HV6 := Lib.hid hv6
  have HK6 := Lib.hid hk6
  have c0 : (w5.setCell ⟨od, 2, none⟩ (.slice a2 l2.length cc2)).cell? ⟨od, 0, none⟩ = some (.int .i64 K) := ho6.cell 0
  clear ho6 fr6 hb6 hs6 hv6 hk6 hv2 HSH HK5 hl2
  go_upto_region 16 with (fail)
  generalize w5.setCell ⟨od, 2, none⟩ (.slice a2 l2.length cc2) = w6 at *
  clear c2 f2 HOP HS5
  go_upto_block 4 with (fail)
  clear c0
  by_cases k0 : K = 0
  · subst k0
    apply devWrite w0 w6 p b ww nb sb lb nc sc lc od D m n k _ I _ _ hk l2 HV6.out HS6.out HO6.out
    intro p2 b2 D2 m2 w7
    intros
    rename_i hs7
    have HS7 := Lib.hid hs7
    have HC := Lib.hid (same24_c w7 p2 b2 ww nb sb lb nc sc lc D2 m2 hs7.dev hs7.wat hs7.rel.mt)
    clear hs7
    go_wp2_with (fail)
    refine HC.out.mono ?_
    rintro e w8 ⟨rfl, bel⟩
    have B8 := Lib.hid bel
    clear bel
    dsimp only
    go_wp2_with (fail)
    exact HQ.out p2 b2 D2 m2 _ _ _ _ _ _ _ _ _ _ _ _ _ _ _ _ _ _ _ _ _ _ _ _ _ _ _ _ _ _ _ _ _ _ _ _ _ _ _ _ _ _ _ _ _ _ _ _ _ _ _ _ _ _ _ _ _ _ _ _ _ _ _ _ _ _ _ _ _ _ _ _ _ _ _ _ _ _ _ _ _ _ _ _ _ _ _ (HS7.out.keep (Fr.of_below B8.out))
  by_cases k1 : K = 1
  · subst k1
    apply devFlush w0 w6 p b ww nb sb lb nc sc lc od D m n k _ I _ _ hk HS6.out HO6.out
    intro p2 b2 D2 m2 w7
    intros
    rename_i hs7
    have HS7 := Lib.hid hs7
    have HC := Lib.hid (same24_c w7 p2 b2 ww nb sb lb nc sc lc D2 m2 hs7.dev hs7.wat hs7.rel.mt)
    clear hs7
    go_wp2_with (fail)
    refine HC.out.mono ?_
    rintro e w8 ⟨rfl, bel⟩
    have B8 := Lib.hid bel
    clear bel
    dsimp only
    go_wp2_with (fail)
    exact HQ.out p2 b2 D2 m2 _ _ _ _ _ _ _ _ _ _ _ _ _ _ _ _ _ _ _ _ _ _ _ _ _ _ _ _ _ _ _ _ _ _ _ _ _ _ _ _ _ _ _ _ _ _ _ _ _ _ _ _ _ _ _ _ _ _ _ _ _ _ _ _ _ _ _ _ _ _ _ _ _ _ _ _ _ _ _ _ _ _ _ _ _ _ _ (HS7.out.keep (Fr.of_below B8.out))
  by_cases k2 : K = 2
  · subst k2
    apply devCrash w0 w6 p b ww nb sb lb nc sc lc od D m n k _ I _ _ kl HK6.out HS6.out HO6.out
    intro p2 b2 D2 m2 w7
    intros
    rename_i hs7
    have HS7 := Lib.hid hs7
    have HC := Lib.hid (same24_c w7 p2 b2 ww nb sb lb nc sc lc D2 m2 hs7.dev hs7.wat hs7.rel.mt)
    clear hs7
    go_wp2_with (fail)
    refine HC.out.mono ?_
    rintro e w8 ⟨rfl, bel⟩
    have B8 := Lib.hid bel
    clear bel
    dsimp only
    go_wp2_with (fail)
    exact HQ.out p2 b2 D2 m2 _ _ _ _ _ _ _ _ _ _ _ _ _ _ _ _ _ _ _ _ _ _ _ _ _ _ _ _ _ _ _ _ _ _ _ _ _ _ _ _ _ _ _ _ _ _ _ _ _ _ _ _ _ _ _ _ _ _ _ _ _ _ _ _ _ _ _ _ _ _ _ _ _ _ _ _ _ _ _ _ _ _ _ _ _ _ _ (HS7.out.keep (Fr.of_below B8.out))
  · apply devFuse w0 w6 p b ww nb sb lb nc sc lc od D m n k K I _ _ hI ⟨k0, k1, k2⟩ HS6.out HO6.out
    intro p2 b2 D2 m2 w7
    intros
    rename_i hs7
    have HS7 := Lib.hid hs7
    have HC := Lib.hid (same24_c w7 p2 b2 ww nb sb lb nc sc lc D2 m2 hs7.dev hs7.wat hs7.rel.mt)
    clear hs7
    go_wp2_with (fail)
    refine HC.out.mono ?_
    rintro e w8 ⟨rfl, bel⟩
    have B8 := Lib.hid bel
    clear bel
    dsimp only
    go_wp2_with (fail)
    exact HQ.out p2 b2 D2 m2 _ _ _ _ _ _ _ _ _ _ _ _ _ _ _ _ _ _ _ _ _ _ _ _ _ _ _ _ _ _ _ _ _ _ _ _ _ _ _ _ _ _ _ _ _ _ _ _ _ _ _ _ _ _ _ _ _ _ _ _ _ _ _ _ _ _ _ _ _ _ _ _ _ _ _ _ _ _ _ _ _ _ _ _ _ _ _ (HS7.out.keep (Fr.of_below B8.out))
end Go.Proofs.Ytchibinlcedjaaa
