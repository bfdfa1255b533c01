import Derived.Test.YtbkjiinnojnkhaaY3
namespace Go.Proofs.Ytbkjiinnojnkhaa
open Go.RowKit
set_option maxHeartbeats 4000000 in
theorem extentCopy_walk (w : World) {x y : Int} (hx : (Lit.int .i64 x).wf = true) (hy : (Lit.int .i64 y).wf = true) :
    Calls Try.prog 7 #[.int .i64 x, .int .i64 y] w fun e w' => e = .returned (.bool true) ∧ Below w.heap.size w w' := by
  have hx' := bounds_i64 hx
  have hy' := bounds_i64 hy
  clear hx hy
  go_enter Try.func7, Try.ntmps7
  go_wp2_with (fail)
  refine (begun_c w).mono ?_
  rintro e w1 ⟨rfl, bel⟩
  have B1 := Lib.hid bel
  have z1 := bel.size
  clear bel
  by_cases c1 : x < 1
  · go_wp2_with (fail)
    go_ret
    exact ⟨rfl, B1.out⟩
  by_cases c2 : 20 < x
  · go_wp2_with (fail)
    go_ret
    exact ⟨rfl, B1.out⟩
  by_cases c3 : y < 1
  · go_wp2_with (fail)
    go_ret
    exact ⟨rfl, B1.out⟩
  by_cases c4 : 20 < y
  · go_wp2_with (fail)
    go_ret
    exact ⟨rfl, B1.out⟩
  obtain ⟨a, rfl⟩ := Int.eq_ofNat_of_zero_le (by omega : 0 ≤ x)
  obtain ⟨b, rfl⟩ := Int.eq_ofNat_of_zero_le (by omega : 0 ≤ y)
  have d1 : decide ((a : Int) < 1) = false := by simp; omega
  have d2 : decide (20 < (a : Int)) = false := by simp; omega
  have d3 : decide ((b : Int) < 1) = false := by simp; omega
  have d4 : decide (20 < (b : Int)) = false := by simp; omega
  have ha : 1 ≤ a ∧ a ≤ 20 := by omega
  have hb : 1 ≤ b ∧ b ≤ 20 := by omega
  clear c1 c2 c3 c4 hx' hy'
  go_wp2_with (fail)
  refine (new_c w1 0 40 (by omega) (by omega) (by omega) (by omega)).mono ?_
  rintro e w2 ⟨⟨p, q, rfl, hp, hq, hr⟩, bel⟩
  rw [show List.replicate (Int.toNat 40) true = fullF 40 0 by rw [show Int.toNat 40 = 40 from rfl, rg_true]; exact rg_ext fun i _ => by simp] at hr
  have R2 := Lib.hid hr
  have B2 := Lib.hid (B1.out.trans (bel.mono z1))
  have z2 := bel.size
  have hq2 : q < w2.heap.size := hr.row.lt
  have hp2 : p < w2.heap.size := hr.head.lt
  clear hr bel
  go_wp2_with (fail)
  obtain ⟨s1, ht1, hs1, hset1⟩ := full_takeN 0 40 0 a (by omega) (by omega)
  refine (take_c w2 p q _ [] 0 (fullF 40 0) R2.out (a : Int) (by omega)).mono ?_
  intro e w3 hpost
  obtain ⟨rfl, hr, fr⟩ := take_some hpost ht1
  rw [hset1, Nat.zero_add] at hr
  have R3 := Lib.hid hr
  have B3 := Lib.hid (B2.out.trans (fr.below (B := w.heap.size) B2.out.size (by simp; omega)))
  have z3 := fr.size
  clear hr fr hpost ht1 hs1 hset1
  go_wp2_with (fail)
  refine (copy_c w3 p q _ [] 0 (fullF 40 a) R3.out).mono ?_
  rintro e w4 ⟨⟨p', q', cap', ex', rfl, hp', hq', hr'⟩, bel⟩
  have R4 := Lib.hid (R3.out.fr (Fr.of_below bel) (by simp) (by simp))
  have C4 := Lib.hid hr'
  have B4 := Lib.hid (B3.out.trans (bel.mono B3.out.size))
  have z4 := bel.size
  have hq4 : q' < w4.heap.size := hr'.row.lt
  have hp4 : p' < w4.heap.size := hr'.head.lt
  have hne1 : q ≠ q' ∧ p ≠ q' ∧ p' ≠ q := by omega
  clear hr' bel
  go_wp2_with (fail)
  obtain ⟨s2, ht2, hs2, hset2⟩ := full_takeN 0 40 a b (by omega) (by omega)
  refine (take_c w4 p' q' _ ex' 0 (fullF 40 a) C4.out (b : Int) (by omega)).mono ?_
  intro e w5 hpost
  obtain ⟨rfl, hr, fr⟩ := take_some hpost ht2
  rw [hset2] at hr
  rw [hs2, Int.zero_add]
  have C5 := Lib.hid hr
  have R5 := Lib.hid (R4.out.fr fr (by simp; omega) (by simp; omega))
  have B5 := Lib.hid (B4.out.trans (fr.below (B := w.heap.size) B4.out.size (by simp; omega)))
  have z5 := fr.size
  clear hr fr hpost
  go_wp2_with (fail)
  have v5 : Bl (w5.alloc (.cells #[.int .i64 (a : Int), .int .i64 (b : Int)] 30)) w5.heap.size 30 [.int .i64 (a : Int), .int .i64 (b : Int)] := Bl.new _ _ _
  have f5 : Fr [] w5 (w5.alloc (.cells #[.int .i64 (a : Int), .int .i64 (b : Int)] 30)) := (Fr.refl _ _).alloc _
  generalize w5.alloc (.cells #[.int .i64 (a : Int), .int .i64 (b : Int)] 30) = wa at *
  have C6 := Lib.hid (C5.out.fr f5 (by simp) (by simp))
  have R6 := Lib.hid (R5.out.fr f5 (by simp) (by simp))
  have B6 := Lib.hid (B5.out.trans (f5.nil.mono B5.out.size))
  have V6 := Lib.hid v5
  have hA : w5.heap.size < wa.heap.size := v5.lt
  have hA2 : q < w5.heap.size ∧ q' < w5.heap.size := by omega
  clear v5 f5
  generalize w5.heap.size = A at *
  refine (take_c wa p q _ [] 0 (fullF 40 a) R6.out (b : Int) (by omega)).mono ?_
  intro e w7 hpost
  obtain ⟨rfl, hr, fr⟩ := take_some hpost ht2
  rw [hset2] at hr
  rw [hs2, Int.zero_add]
  have R7 := Lib.hid hr
  have C7 := Lib.hid (C6.out.fr fr (by simp; omega) (by simp; omega))
  have V7 := Lib.hid (V6.out.fr fr (by simp; omega))
  have B7 := Lib.hid (B6.out.trans (fr.below (B := w.heap.size) B6.out.size (by simp; omega)))
  have z7 := fr.size
  clear hr fr hpost ht2 hs2 hset2
  go_upto_region 11 with (fail)
  have v7 : Bl (w7.alloc (.cells #[.int .i64 (a : Int), .int .i64 (b : Int)] 30)) w7.heap.size 30 [.int .i64 (a : Int), .int .i64 (b : Int)] := Bl.new _ _ _
  have f7 : Fr [] w7 (w7.alloc (.cells #[.int .i64 (a : Int), .int .i64 (b : Int)] 30)) := (Fr.refl _ _).alloc _
  generalize w7.alloc (.cells #[.int .i64 (a : Int), .int .i64 (b : Int)] 30) = wb at *
  have C8 := Lib.hid (C7.out.fr f7 (by simp) (by simp))
  have R8 := Lib.hid (R7.out.fr f7 (by simp) (by simp))
  have B8 := Lib.hid (B7.out.trans (f7.nil.mono B7.out.size))
  have V8 := Lib.hid (V7.out.fr f7 (by simp))
  have U8 := Lib.hid v7
  have hB2 : q < w7.heap.size ∧ q' < w7.heap.size := by omega
  have a0 : wb.cell? ⟨A, 0, none⟩ = some (.int .i64 (a : Int)) := V8.out.cell 0
  have a1 : wb.cell? ⟨A, 1, none⟩ = some (.int .i64 (b : Int)) := V8.out.cell 1
  clear v7 f7
  generalize w7.heap.size = C at *
  go_wp2_with (fail)
  refine (give_c wb p' q' _ ex' 0 _ C8.out (a : Int) (b : Int) (by omega) (by omega)).mono ?_
  rintro e w9 ⟨rfl, hr, fr⟩
  have hg := full_give 0 40 a b (by omega) (by omega)
  rw [Int.zero_add] at hg
  rw [hg] at hr
  have C9 := Lib.hid hr
  have R9 := Lib.hid (R8.out.fr fr (by simp; omega) (by simp; omega))
  have V9 := Lib.hid (V8.out.fr fr (by simp; omega))
  have U9 := Lib.hid (U8.out.fr fr (by simp; omega))
  have B9 := Lib.hid (B8.out.trans (fr.below (B := w.heap.size) B8.out.size (by simp; omega)))
  clear hr fr a0 a1 hg
  have a0 : w9.cell? ⟨A, 0, none⟩ = some (.int .i64 (a : Int)) := V9.out.cell 0
  have a2 : w9.cell? ⟨C, 0, none⟩ = some (.int .i64 (a : Int)) := U9.out.cell 0
  have n1 := full_count 40 (a + b)
  have n2 := full_count 40 a
  go_wp2_with (fail)
  refine (free_c w9 p _ 0 _ R9.out.r).mono ?_
  rintro e w10 ⟨rfl, bel⟩
  rw [n1, show ((40 - (a + b) : Nat) : Int) = 40 - (a : Int) - (b : Int) by omega]
  have C10 := Lib.hid (C9.out.fr (Fr.of_below bel) (by simp) (by simp))
  have B10 := Lib.hid (B9.out.trans (bel.mono B9.out.size))
  clear bel n1
  go_wp2_with (fail)
  refine (free_c w10 p' _ 0 _ C10.out.r).mono ?_
  rintro e w11 ⟨rfl, bel⟩
  rw [n2, show ((40 - a : Nat) : Int) = 40 - (a : Int) by omega]
  have B11 := Lib.hid (B10.out.trans (bel.mono B10.out.size))
  clear bel n2
  go_wp2_with (fail)
  go_ret
  exact ⟨rfl, B11.out⟩
end Go.Proofs.Ytbkjiinnojnkhaa
