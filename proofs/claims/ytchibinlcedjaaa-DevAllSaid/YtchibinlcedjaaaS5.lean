import Derived.Test.YtchibinlcedjaaaS4
namespace Go.Proofs.Ytchibinlcedjaaa
open Go.RowKit
theorem there_c (w : World) (p b : Nat) (D : DM) (h : DevAt w p b D) (x : Int) :
    Calls Try.prog 40 #[.pointer (some ⟨p, 0, none⟩), .int .i64 x] w fun e w' => e = .returned (.bool (decide (0 ≤ x) && decide (x < (D.secs.length : Int) - 1))) ∧ w = w' := by
  have HL := Lib.hid (len_c w p b D h)
  have hlen := h.2.2.2.2.1
  clear h
  by_cases k1 : 0 ≤ x
  · have d1 : decide (0 ≤ x) = true := by simpa using k1
    go_enter Try.func40, Try.ntmps40
    go_wp2_with (go_at_call 27; refine (HL.out).mono ?_; rintro e w' ⟨rfl, rfl⟩)
    go_ret
    exact ⟨by rw [d1]; rfl, rfl⟩
  · have d1 : decide (0 ≤ x) = false := by simpa using k1
    go_enter Try.func40, Try.ntmps40
    go_wp2_with (go_at_call 27; refine (HL.out).mono ?_; rintro e w' ⟨rfl, rfl⟩)
    go_ret
    exact ⟨by first | rfl | (rw [d1]; rfl), rfl⟩
theorem there_nil (w : World) (x : Int) (hx : -9223372036854775808 ≤ x ∧ x ≤ 9223372036854775807) :
    Calls Try.prog 40 #[.pointer none, .int .i64 x] w fun e w' => e = .returned (.bool false) ∧ w = w' := by
  by_cases k1 : 0 ≤ x
  · have d1 : decide (0 ≤ x) = true := by simpa using k1
    have d2 : decide (x < -1) = false := by simp; omega
    go_enter Try.func40, Try.ntmps40
    go_wp2_with (go_at_call 27; refine (len_nil w).mono ?_; rintro e w' ⟨rfl, rfl⟩)
    go_ret
    exact ⟨rfl, rfl⟩
  · have d1 : decide (0 ≤ x) = false := by simpa using k1
    go_enter Try.func40, Try.ntmps40
    go_wp2_with (go_at_call 27; refine (len_nil w).mono ?_; rintro e w' ⟨rfl, rfl⟩)
    go_ret
    exact ⟨rfl, rfl⟩
end Go.Proofs.Ytchibinlcedjaaa
