import Derived.Test.YtbkjiinnojnkhaaY3
namespace Go.Proofs.Ytbkjiinnojnkhaa
open Go.RowKit
theorem set_nil (w : World) (x n : Int) (c : Bool) :
    Calls Try.prog 19 #[.pointer none, .agg #[.int .i64 x, .int .i64 n], .bool c] w fun e w' => e = .returned (.bool false) ∧ Below w.heap.size w w' := by
  have hs : Bl (w.alloc (.cells #[.int .i64 x, .int .i64 n] 30)) w.heap.size 30 [.int .i64 x, .int .i64 n] := Bl.new _ _ _
  have HB0 := Lib.hid ((Below.refl w.heap.size w).alloc (Nat.le_refl _) (.cells #[.int .i64 x, .int .i64 n] 30))
  go_enter Try.func19, Try.ntmps19
  go_upto_region 1 with (fail)
  generalize w.alloc (.cells #[.int .i64 x, .int .i64 n] 30) = w1 at *
  have s0 : w1.cell? ⟨w.heap.size, 0, none⟩ = some (.int .i64 x) := hs.cell 0
  have s1 : w1.cell? ⟨w.heap.size, 1, none⟩ = some (.int .i64 n) := hs.cell 1
  clear hs
  go_wp2_with (fail)
  refine (all_nil w1 _ ⟨x, n, rfl⟩ (!c)).mono ?_
  rintro e w2 ⟨rfl, bel⟩
  have B2 := Lib.hid (HB0.out.trans (bel.mono HB0.out.size))
  clear bel s0 s1
  go_wp2_with (fail)
  go_ret
  exact ⟨rfl, B2.out⟩
theorem use_nil (w : World) (x n : Int) :
    Calls Try.prog 12 #[.pointer none, .agg #[.int .i64 x, .int .i64 n]] w fun e w' => e = .returned (.bool false) ∧ Below w.heap.size w w' := by
  have hs : Bl (w.alloc (.cells #[.int .i64 x, .int .i64 n] 30)) w.heap.size 30 [.int .i64 x, .int .i64 n] := Bl.new _ _ _
  have HB0 := Lib.hid ((Below.refl w.heap.size w).alloc (Nat.le_refl _) (.cells #[.int .i64 x, .int .i64 n] 30))
  go_enter Try.func12, Try.ntmps12
  go_upto_region 1 with (fail)
  generalize w.alloc (.cells #[.int .i64 x, .int .i64 n] 30) = w1 at *
  have s0 : w1.cell? ⟨w.heap.size, 0, none⟩ = some (.int .i64 x) := hs.cell 0
  have s1 : w1.cell? ⟨w.heap.size, 1, none⟩ = some (.int .i64 n) := hs.cell 1
  clear hs
  go_wp2_with (fail)
  refine (set_nil w1 x n false).mono ?_
  rintro e w2 ⟨rfl, bel⟩
  have B2 := Lib.hid (HB0.out.trans (bel.mono HB0.out.size))
  clear bel s0 s1
  go_wp2_with (fail)
  go_ret
  exact ⟨rfl, B2.out⟩
theorem give_nil (w : World) (x n : Int) :
    Calls Try.prog 13 #[.pointer none, .agg #[.int .i64 x, .int .i64 n]] w fun e w' => e = .returned (.bool false) ∧ Below w.heap.size w w' := by
  have hs : Bl (w.alloc (.cells #[.int .i64 x, .int .i64 n] 30)) w.heap.size 30 [.int .i64 x, .int .i64 n] := Bl.new _ _ _
  have HB0 := Lib.hid ((Below.refl w.heap.size w).alloc (Nat.le_refl _) (.cells #[.int .i64 x, .int .i64 n] 30))
  go_enter Try.func13, Try.ntmps13
  go_upto_region 1 with (fail)
  generalize w.alloc (.cells #[.int .i64 x, .int .i64 n] 30) = w1 at *
  have s0 : w1.cell? ⟨w.heap.size, 0, none⟩ = some (.int .i64 x) := hs.cell 0
  have s1 : w1.cell? ⟨w.heap.size, 1, none⟩ = some (.int .i64 n) := hs.cell 1
  clear hs
  go_wp2_with (fail)
  refine (set_nil w1 x n true).mono ?_
  rintro e w2 ⟨rfl, bel⟩
  have B2 := Lib.hid (HB0.out.trans (bel.mono HB0.out.size))
  clear bel s0 s1
  go_wp2_with (fail)
  go_ret
  exact ⟨rfl, B2.out⟩
theorem spans_nil (w : World) : Calls Try.prog 15 #[.pointer none] w fun e w' => e = .returned (.slice none 0 0) ∧ w = w' := by
  go_enter Try.func15, Try.ntmps15
  go_wp2_with (fail)
  go_ret
  exact ⟨rfl, rfl⟩
theorem copy_nil (w : World) : Calls Try.prog 17 #[.pointer none] w fun e w' => e = .returned (.pointer none) ∧ w = w' := by
  go_enter Try.func17, Try.ntmps17
  go_wp2_with (fail)
  go_ret
  exact ⟨rfl, rfl⟩
theorem free_nil (w : World) : Calls Try.prog 16 #[.pointer none] w fun e w' => e = .returned (.int .i64 0) ∧ w = w' := by
  go_enter Try.func16, Try.ntmps16
  go_wp2_with (fail)
  refine (spans_nil w).mono ?_
  rintro e w' ⟨rfl, rfl⟩
  go_wp2_with (fail)
  go_loopg [3, 5, 9] 0 (fun q z _ i wr => i = .int .i64 0 ∧ z = .int .i64 0 ∧ w = wr)
  case atStart => exact ⟨rfl, rfl, rfl⟩
  case round =>
    obtain ⟨rfl, rfl, rfl⟩ := hrel
    go_wp2_with (fail)
    go_ret
    exact ⟨rfl, rfl⟩
theorem take_nil (w : World) (n : Int) :
    Calls Try.prog 11 #[.pointer none, .int .i64 n] w fun e w' => e = .returned (.tuple #[.agg #[.int .i64 0, .int .i64 0], .bool false]) ∧ Below w.heap.size w w' := by
  have hr : Bl (w.alloc (.cells #[.int .i64 0, .int .i64 0] 30)) w.heap.size 30 [.int .i64 0, .int .i64 0] := Bl.new _ _ _
  have HB0 := Lib.hid ((Below.refl w.heap.size w).alloc (Nat.le_refl _) (.cells #[.int .i64 0, .int .i64 0] 30))
  go_enter Try.func11, Try.ntmps11
  go_upto_region 1 with (fail)
  generalize w.alloc (.cells #[.int .i64 0, .int .i64 0] 30) = w1 at *
  have HV := Lib.hid hr
  clear hr
  go_wp2_with (fail)
  refine (spans_nil w1).mono ?_
  rintro e w' ⟨rfl, rfl⟩
  go_wp2_with (fail)
  go_loopg [7, 11] 0 (fun q _ i wr => i = .int .i64 0 ∧ w1 = wr)
  case atStart => exact ⟨rfl, rfl⟩
  case round =>
    obtain ⟨rfl, rfl⟩ := hrel
    have r0 : w1.cell? ⟨w.heap.size, 0, none⟩ = some (.int .i64 0) := HV.out.cell 0
    have r1 : w1.cell? ⟨w.heap.size, 1, none⟩ = some (.int .i64 0) := HV.out.cell 1
    have q0 := HV.out.free 0
    have q1 := HV.out.free 1
    go_wp2_with (fail)
    have hv2 : Bl ((w1.setCell ⟨w.heap.size, 0, none⟩ (.int .i64 0)).setCell ⟨w.heap.size, 1, none⟩ (.int .i64 0)) w.heap.size 30 [.int .i64 0, .int .i64 0] := (HV.out.set 0 (.int .i64 0)).set 1 (.int .i64 0)
    (try simp only [Exit.inBlock, Exit.then])
    refine bodyPost_ret (results_cell_tmp rfl _ _ _ ⟨w.heap.size, 0, none⟩ rfl _ (load30 hv2)) rfl ?_
    exact ⟨rfl, (HB0.out.setCell (p := ⟨w.heap.size, 0, none⟩) (Nat.le_refl _) _).setCell (p := ⟨w.heap.size, 1, none⟩) (Nat.le_refl _) _⟩
set_option maxHeartbeats 2000000 in
theorem extentNone_walk (w : World) : Calls Try.prog 8 #[] w fun e w' => e = .returned (.bool true) ∧ Below w.heap.size w w' := by
  go_enter Try.func8, Try.ntmps8
  go_wp2_with (fail)
  refine (take_nil w 1).mono ?_
  rintro e w1 ⟨rfl, bel⟩
  have B1 := Lib.hid (bel.alloc bel.size (.cells #[.int .i64 0, .int .i64 0] 30))
  clear bel
  go_wp2_with (fail)
  refine (begun_c _).mono ?_
  rintro e w2 ⟨rfl, bel⟩
  have B2 := Lib.hid (B1.out.trans (bel.mono B1.out.size))
  clear bel
  go_wp2_with (fail)
  refine (use_nil w2 0 1).mono ?_
  rintro e w3 ⟨rfl, bel⟩
  have B3 := Lib.hid (B2.out.trans (bel.mono B2.out.size))
  clear bel
  go_wp2_with (fail)
  refine (give_nil w3 0 1).mono ?_
  rintro e w4 ⟨rfl, bel⟩
  have B4 := Lib.hid (B3.out.trans (bel.mono B3.out.size))
  clear bel
  go_wp2_with (fail)
  refine (free_nil w4).mono ?_
  rintro e w' ⟨rfl, rfl⟩
  go_wp2_with (fail)
  refine (spans_nil w4).mono ?_
  rintro e w' ⟨rfl, rfl⟩
  go_wp2_with (fail)
  refine (copy_nil w4).mono ?_
  rintro e w' ⟨rfl, rfl⟩
  go_wp2_with (fail)
  refine (new_bad w4 (-1) 5 (by omega) (by omega)).mono ?_
  rintro e w5 ⟨⟨p, rfl, hr⟩, bel⟩
  have R5 := Lib.hid hr
  have B5 := Lib.hid (B4.out.trans (bel.mono B4.out.size))
  clear hr bel
  go_wp2_with (fail)
  refine (free_c w5 p _ 0 _ R5.out).mono ?_
  rintro e w6 ⟨rfl, bel⟩
  have B6 := Lib.hid (B5.out.trans (bel.mono B5.out.size))
  rw [show ([] : List Bool).count true = 0 from rfl]
  clear bel
  go_wp2_with (fail)
  refine (new_bad w6 0 2049 (by omega) (by omega)).mono ?_
  rintro e w7 ⟨⟨p7, rfl, hr⟩, bel⟩
  have R7 := Lib.hid hr
  have B7 := Lib.hid (B6.out.trans (bel.mono B6.out.size))
  clear hr bel
  go_wp2_with (fail)
  refine (free_c w7 p7 _ 0 _ R7.out).mono ?_
  rintro e w8 ⟨rfl, bel⟩
  have B8 := Lib.hid (B7.out.trans (bel.mono B7.out.size))
  rw [show ([] : List Bool).count true = 0 from rfl]
  clear bel
  go_wp2_with (fail)
  go_ret
  exact ⟨rfl, B8.out⟩
end Go.Proofs.Ytbkjiinnojnkhaa
