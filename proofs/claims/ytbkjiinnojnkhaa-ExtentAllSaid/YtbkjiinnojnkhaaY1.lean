import Derived.Test.YtbkjiinnojnkhaaX9
namespace Go.Proofs.Ytbkjiinnojnkhaa
open Go.RowKit
theorem take_some {w : World} {p b cap : Nat} {ex : List Value} {at_ : Int} {free : List Bool} {n : Int} {e : Ending} {w' : World} (h : TakePost w p b cap ex at_ free n e w') {s : Int × Int} (hs : taken at_ free n = some s) :
    e = .returned (.tuple #[.agg #[.int .i64 s.1, .int .i64 n], .bool true]) ∧ RoomAt w' p b cap ex at_ (setTo at_ free s.1 n false) ∧ Fr [b] w w' := by
  unfold TakePost at h
  rw [hs] at h
  exact h
theorem take_none {w : World} {p b cap : Nat} {ex : List Value} {at_ : Int} {free : List Bool} {n : Int} {e : Ending} {w' : World} (h : TakePost w p b cap ex at_ free n e w') (hs : taken at_ free n = none) :
    e = .returned (.tuple #[.agg #[.int .i64 0, .int .i64 0], .bool false]) ∧ RoomAt w' p b cap ex at_ free ∧ Fr [b] w w' := by
  unfold TakePost at h
  rw [hs] at h
  exact h
def bf0 : List Bool := List.replicate 10 true
def bf1 : List Bool := setTo 2 bf0 2 3 false
def bf2 : List Bool := setTo 2 bf1 6 2 false
def bf3 : List Bool := setTo 2 bf2 3 1 true
theorem bk1 : taken 2 bf0 3 = some (2, 10) := by decide +kernel
theorem bk2 : isAll 2 bf1 6 2 true = true := by decide +kernel
theorem bk3 : isAll 2 bf2 3 1 false = true := by decide +kernel
theorem bk4 : taken 2 bf3 5 = none := by decide +kernel
theorem bk5 : spans 2 bf3 = [(3, 1), (5, 1), (8, 4)] := by decide +kernel
theorem bk6 : bf3.count true = 6 := by decide +kernel
theorem bk7 : isAll 2 bf3 8 1 false = false := by decide +kernel
theorem lt_fr {S : List Nat} {w w' : World} (f : Fr S w w') : w.heap.size ≤ w'.heap.size := f.size
set_option maxHeartbeats 4000000 in
theorem begun_c (w : World) : Calls Try.prog 9 #[] w fun e w' => e = .returned (.bool true) ∧ Below w.heap.size w w' := by
  go_enter Try.func9, Try.ntmps9
  go_wp2_with (fail)
  refine (new_c w 2 10 (by omega) (by omega) (by omega) (by omega)).mono ?_
  rintro e w1 ⟨⟨p, b, rfl, hp, hb, hr⟩, bel⟩
  change RoomAt w1 p b 10 [] 2 bf0 at hr
  have R1 := Lib.hid hr
  have B1 := Lib.hid bel
  have z1 := bel.size
  have pl := hr.head.lt
  have bl := hr.row.lt
  clear hr bel
  go_wp2_with (fail)
  refine (take_c w1 p b 10 [] 2 bf0 R1.out 3 (by omega)).mono ?_
  intro e w2 ht
  obtain ⟨rfl, hr, fr⟩ := take_some ht bk1
  change RoomAt w2 p b 10 [] 2 bf1 at hr
  have R2 := Lib.hid hr
  have B2 := Lib.hid (B1.out.trans (fr.below (B := w.heap.size) z1 (by simpa using hb)))
  have z2 := fr.size
  clear hr fr ht
  go_wp2_with (fail)
  have va : Bl (w2.alloc (.cells #[.int .i64 2, .int .i64 3] 30)) w2.heap.size 30 [.int .i64 2, .int .i64 3] := Bl.new _ _ _
  have ra := R2.out.fr ((Fr.refl [] w2).alloc (.cells #[.int .i64 2, .int .i64 3] 30)) (by simp) (by simp)
  have ba := B2.out.alloc (by omega) (.cells #[.int .i64 2, .int .i64 3] 30)
  generalize w2.alloc (.cells #[.int .i64 2, .int .i64 3] 30) = wa at *
  have VA := Lib.hid va
  have BA := Lib.hid ba
  have hAw : w.heap.size ≤ w2.heap.size := by omega
  have hbA : b < w2.heap.size := by omega
  clear va ba
  generalize w2.heap.size = A at *
  refine (use_c wa p b 10 [] 2 bf1 ra 6 2 (by omega) (by omega)).mono ?_
  rintro e w3 ⟨rfl, hr, fr⟩
  rw [bk2]
  change RoomAt w3 p b 10 [] 2 bf2 at hr
  have R3 := Lib.hid hr
  have V3 := Lib.hid (VA.out.fr fr (by simp; omega))
  have B3 := Lib.hid (BA.out.trans (fr.below (B := w.heap.size) (by have := BA.out.size; omega) (by simpa using hb)))
  clear hr fr ra
  go_wp2_with (fail)
  refine (give_c w3 p b 10 [] 2 bf2 R3.out 3 1 (by omega) (by omega)).mono ?_
  rintro e w4 ⟨rfl, hr, fr⟩
  rw [bk3]
  change RoomAt w4 p b 10 [] 2 bf3 at hr
  have R4 := Lib.hid hr
  have V4 := Lib.hid (V3.out.fr fr (by simp; omega))
  have B4 := Lib.hid (B3.out.trans (fr.below (B := w.heap.size) (by have := B3.out.size; omega) (by simpa using hb)))
  clear hr fr
  go_wp2_with (fail)
  refine (take_c w4 p b 10 [] 2 bf3 R4.out 5 (by omega)).mono ?_
  intro e w5 ht
  obtain ⟨rfl, hr, fr⟩ := take_none ht bk4
  have R5 := Lib.hid hr
  have V5 := Lib.hid (V4.out.fr fr (by simp; omega))
  have B5 := Lib.hid (B4.out.trans (fr.below (B := w.heap.size) (by have := B4.out.size; omega) (by simpa using hb)))
  clear hr fr ht
  go_wp2_with (fail)
  have rb := R5.out.fr ((Fr.refl [] w5).alloc (.cells #[.int .i64 0, .int .i64 0] 30)) (by simp) (by simp)
  have vb := V5.out.alloc (.cells #[.int .i64 0, .int .i64 0] 30)
  have bb := B5.out.alloc B5.out.size (.cells #[.int .i64 0, .int .i64 0] 30)
  generalize w5.alloc (.cells #[.int .i64 0, .int .i64 0] 30) = wb at *
  refine (spans_c wb p _ 2 bf3 rb.r).mono ?_
  rw [bk5]
  rintro e w6 ⟨⟨v', rfl, own⟩, bel⟩
  have R6 := Lib.hid (rb.fr (Fr.of_below bel) (by simp) (by simp))
  have V6 := Lib.hid (vb.below bel vb.lt)
  have B6 := Lib.hid (bb.trans (bel.mono bb.size))
  obtain ⟨_, ⟨_, h0⟩ | ⟨g, cap4, cur, rfl, hg, _⟩⟩ := id own
  · exact absurd h0 (by decide)
  have hgb : b < g := by have := rb.row.lt; omega
  have O6 := Lib.hid own
  clear rb vb bb bel own
  have a0 : w6.cell? ⟨A, 0, none⟩ = some (.int .i64 2) := V6.out.cell 0
  have a1 : w6.cell? ⟨A, 1, none⟩ = some (.int .i64 3) := V6.out.cell 1
  go_wp2_with (fail)
  refine (free_c w6 p _ 2 bf3 R6.out.r).mono ?_
  rintro e w7 ⟨rfl, bel⟩
  rw [bk6]
  have R7 := Lib.hid (R6.out.fr (Fr.of_below bel) (by simp) (by simp))
  have B7 := Lib.hid (B6.out.trans (bel.mono B6.out.size))
  have O7 := Lib.hid (ownsRow_fr O6.out (Fr.of_below bel) (by simp))
  clear bel a0 a1
  have c0 : w7.cell? ⟨g, 0, none⟩ = some (.int .i64 3) := O7.out.cellAt 0 (by decide)
  have c1 : w7.cell? ⟨g, 1, none⟩ = some (.int .i64 1) := O7.out.cellAt 1 (by decide)
  have c2 : w7.cell? ⟨g, 2, none⟩ = some (.int .i64 5) := O7.out.cellAt 2 (by decide)
  have c4 : w7.cell? ⟨g, 4, none⟩ = some (.int .i64 8) := O7.out.cellAt 4 (by decide)
  go_wp2_with (fail)
  refine (give_c w7 p b 10 [] 2 bf3 R7.out 8 1 (by omega) (by omega)).mono ?_
  rintro e w8 ⟨rfl, hr, fr⟩
  rw [bk7]
  have B8 := Lib.hid (B7.out.trans (fr.below (B := w.heap.size) (by have := B7.out.size; omega) (by simpa using hb)))
  clear hr fr c0 c1 c2 c4
  go_wp2_with (fail)
  refine (new_c w8 0 0 (by omega) (by omega) (by omega) (by omega)).mono ?_
  rintro e w9 ⟨⟨p', b', rfl, hp', hb', hr⟩, bel⟩
  have R9 := Lib.hid hr
  have B9 := Lib.hid (B8.out.trans (bel.mono B8.out.size))
  clear hr bel
  go_wp2_with (fail)
  refine (free_c w9 p' _ 0 _ R9.out.r).mono ?_
  rintro e w10 ⟨rfl, bel⟩
  have B10 := Lib.hid (B9.out.trans (bel.mono B9.out.size))
  rw [show (List.replicate (Int.toNat 0) true).count true = 0 from rfl]
  clear bel
  go_wp2_with (fail)
  go_ret
  exact ⟨rfl, B10.out⟩
end Go.Proofs.Ytbkjiinnojnkhaa
