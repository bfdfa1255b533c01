import Derived.Test.YtbkjiinnojnkhaaX5
namespace Go.Proofs.Ytbkjiinnojnkhaa
open Go.RowKit
set_option maxHeartbeats 1000000 in
theorem use_c (w : World) (p b cap : Nat) (ex : List Value) (at_ : Int) (free : List Bool) (h : RoomAt w p b cap ex at_ free) (x n : Int) (hx : -9223372036854775808 ≤ x ∧ x ≤ 9223372036854775807) (hn : -9223372036854775808 ≤ n ∧ n ≤ 9223372036854775807) :
    Calls Try.prog 12 #[.pointer (some ⟨p, 0, none⟩), .agg #[.int .i64 x, .int .i64 n]] w fun e w' => e = .returned (.bool (isAll at_ free x n true)) ∧ RoomAt w' p b cap ex at_ (setTo at_ free x n false) ∧ Fr [b] w w' := by
  have hf0 : Fr [b] w (w.alloc (.cells #[.int .i64 x, .int .i64 n] 30)) := (Fr.refl _ _).alloc _
  have h1 := h.fr ((Fr.refl [] w).alloc (.cells #[.int .i64 x, .int .i64 n] 30)) (by simp) (by simp)
  have hs : Bl (w.alloc (.cells #[.int .i64 x, .int .i64 n] 30)) w.heap.size 30 [.int .i64 x, .int .i64 n] := Bl.new _ _ _
  clear h
  have HF0 := Lib.hid hf0
  clear hf0
  go_enter Try.func12, Try.ntmps12
  go_upto_region 1 with (fail)
  generalize w.alloc (.cells #[.int .i64 x, .int .i64 n] 30) = w1 at *
  have s0 : w1.cell? ⟨w.heap.size, 0, none⟩ = some (.int .i64 x) := hs.cell 0
  have s1 : w1.cell? ⟨w.heap.size, 1, none⟩ = some (.int .i64 n) := hs.cell 1
  have H1 := Lib.hid h1
  clear h1 hs
  go_wp2_with (fail)
  refine (set_c w1 p b cap ex at_ free H1.out x n hx hn false).mono ?_
  rintro e w2 ⟨rfl, hr, fr⟩
  have HR := Lib.hid hr
  have FR := Lib.hid (HF0.out.trans fr)
  clear hr fr
  rw [show (!false) = true from rfl]
  generalize hres : isAll at_ free x n true = res at *
  have HRES := Lib.hid hres
  clear hres
  go_wp2_with (fail)
  go_ret
  exact ⟨by rw [HRES.out]; rfl, HR.out, FR.out⟩
set_option maxHeartbeats 1000000 in
theorem give_c (w : World) (p b cap : Nat) (ex : List Value) (at_ : Int) (free : List Bool) (h : RoomAt w p b cap ex at_ free) (x n : Int) (hx : -9223372036854775808 ≤ x ∧ x ≤ 9223372036854775807) (hn : -9223372036854775808 ≤ n ∧ n ≤ 9223372036854775807) :
    Calls Try.prog 13 #[.pointer (some ⟨p, 0, none⟩), .agg #[.int .i64 x, .int .i64 n]] w fun e w' => e = .returned (.bool (isAll at_ free x n false)) ∧ RoomAt w' p b cap ex at_ (setTo at_ free x n true) ∧ Fr [b] w w' := by
  have hf0 : Fr [b] w (w.alloc (.cells #[.int .i64 x, .int .i64 n] 30)) := (Fr.refl _ _).alloc _
  have h1 := h.fr ((Fr.refl [] w).alloc (.cells #[.int .i64 x, .int .i64 n] 30)) (by simp) (by simp)
  have hs : Bl (w.alloc (.cells #[.int .i64 x, .int .i64 n] 30)) w.heap.size 30 [.int .i64 x, .int .i64 n] := Bl.new _ _ _
  clear h
  have HF0 := Lib.hid hf0
  clear hf0
  go_enter Try.func13, Try.ntmps13
  go_upto_region 1 with (fail)
  generalize w.alloc (.cells #[.int .i64 x, .int .i64 n] 30) = w1 at *
  have s0 : w1.cell? ⟨w.heap.size, 0, none⟩ = some (.int .i64 x) := hs.cell 0
  have s1 : w1.cell? ⟨w.heap.size, 1, none⟩ = some (.int .i64 n) := hs.cell 1
  have H1 := Lib.hid h1
  clear h1 hs
  go_wp2_with (fail)
  refine (set_c w1 p b cap ex at_ free H1.out x n hx hn true).mono ?_
  rintro e w2 ⟨rfl, hr, fr⟩
  have HR := Lib.hid hr
  have FR := Lib.hid (HF0.out.trans fr)
  clear hr fr
  rw [show (!true) = false from rfl]
  generalize hres : isAll at_ free x n false = res at *
  have HRES := Lib.hid hres
  clear hres
  go_wp2_with (fail)
  go_ret
  exact ⟨by rw [HRES.out]; rfl, HR.out, FR.out⟩
set_option maxHeartbeats 1000000 in
theorem new_c (w : World) (at_ n : Int) (h0 : 0 ≤ at_) (h1 : at_ ≤ 1000000) (h2 : 0 ≤ n) (h3 : n ≤ 2048) :
    Calls Try.prog 10 #[.int .i64 at_, .int .i64 n] w fun e w' => (∃ p b, e = .returned (.pointer (some ⟨p, 0, none⟩)) ∧ w.heap.size ≤ p ∧ w.heap.size ≤ b ∧ RoomAt w' p b n.toNat [] at_ (List.replicate n.toNat true)) ∧ Below w.heap.size w w' := by
  obtain ⟨m, rfl⟩ := Int.eq_ofNat_of_zero_le h2
  have d1 : decide (at_ < 0) = false := by simp; omega
  have d2 : decide ((m : Int) < 0) = false := by simp
  have d3 : decide (2048 < (m : Int)) = false := by simp; omega
  rw [Int.toNat_natCast]
  go_enter Try.func10, Try.ntmps10
  go_wp2_with (fail)
  refine (repeat_c _ _ m (by omega) ?hv).mono ?_
  case hv => exact (Bl.new w 4 [.bool true]).sv 1 0 1 1 (by simp) (by simp) (Nat.le_refl _) (by simp [maxLen])
  rintro e w2 ⟨g, rfl, hg, hb, bel⟩
  have HB := Lib.hid hb
  have BEL := Lib.hid (((Below.refl w.heap.size w).alloc (Nat.le_refl _) (.cells #[.bool true] 4)).trans (bel.mono (by simp)))
  simp at hg
  clear hb bel
  go_wp2_with (fail)
  go_ret
  refine ⟨⟨_, g, rfl, BEL.out.size, by omega, ?_⟩, BEL.out.alloc BEL.out.size _⟩
  have hl : (List.replicate m true).length = m := by simp
  exact ⟨by rw [hl]; exact Bl.new _ _ _, by rw [List.append_nil]; exact HB.out.alloc _, h0, h1, by omega, by omega, by unfold maxLen; omega⟩
theorem new_bad (w : World) (at_ n : Int) (hn : -9223372036854775808 ≤ n ∧ n ≤ 9223372036854775807) (h : at_ < 0 ∨ n < 0 ∨ 2048 < n) :
    Calls Try.prog 10 #[.int .i64 at_, .int .i64 n] w fun e w' => (∃ p, e = .returned (.pointer (some ⟨p, 0, none⟩)) ∧ RoomR w' p (.slice none 0 0) 0 []) ∧ Below w.heap.size w w' := by
  have hh : ∀ W : World, RoomR (W.alloc (.cells #[.int .i64 0, .slice none 0 0] 45)) W.heap.size (.slice none 0 0) 0 [] := fun W => ⟨Bl.new _ _ _, Sv.nil _ _ _, by omega, by omega, by simp⟩
  have HH := Lib.hid hh
  clear hh
  by_cases k1 : at_ < 0
  · have d1 : decide (at_ < 0) = true := by simpa using k1
    go_enter Try.func10, Try.ntmps10
    go_wp2_with (fail)
    go_ret
    exact ⟨⟨_, rfl, HH.out _⟩, (Below.refl _ _).alloc (Nat.le_refl _) _⟩
  have d1 : decide (at_ < 0) = false := by simpa using k1
  by_cases k2 : n < 0
  · have d2 : decide (n < 0) = true := by simpa using k2
    go_enter Try.func10, Try.ntmps10
    go_wp2_with (fail)
    go_ret
    exact ⟨⟨_, rfl, HH.out _⟩, (Below.refl _ _).alloc (Nat.le_refl _) _⟩
  have d2 : decide (n < 0) = false := by simpa using k2
  have d3 : decide (2048 < n) = true := by simp; omega
  clear h
  go_enter Try.func10, Try.ntmps10
  go_wp2_with (fail)
  go_ret
  exact ⟨⟨_, rfl, HH.out _⟩, (Below.refl _ _).alloc (Nat.le_refl _) _⟩
end Go.Proofs.Ytbkjiinnojnkhaa
