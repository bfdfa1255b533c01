import Derived.Test.YtchibinlcedjaaaE1
namespace Go.Proofs.Ytchibinlcedjaaa
open Go.RowKit
set_option maxHeartbeats 1000000 in
theorem devNone_walk (w : World) : Calls Try.prog 5 #[] w fun e w' => e = .returned (.bool true) ∧ Below w.heap.size w w' := by
  go_enter Try.func5, Try.ntmps5
  go_wp2_with (first | (go_at_call 25; refine (read_nil _ _).mono ?_; rintro e w' ⟨rfl, rfl⟩) | (go_at_call 23; refine (fuse_nil _ _).mono ?_; rintro e w' ⟨rfl, rfl⟩))
  refine (begun_c w).mono ?_
  rintro e w1 ⟨rfl, bel⟩
  have B := Lib.hid bel
  clear bel
  go_wp2_with (first | (go_at_call 27; refine (len_nil _).mono ?_; rintro e w' ⟨rfl, rfl⟩) | (go_at_call 17; refine (write_nil _ _ _).mono ?_; rintro e w' ⟨rfl, rfl⟩) | (go_at_call 20; refine (flush_nil _).mono ?_; rintro e w' ⟨rfl, rfl⟩) | (go_at_call 26; refine (loose_nil _).mono ?_; rintro e w' ⟨rfl, rfl⟩) | (go_at_call 28; refine (calls_nil _).mono ?_; rintro e w' ⟨rfl, rfl⟩) | (go_at_call 29; refine (dead_nil _).mono ?_; rintro e w' ⟨rfl, rfl⟩) | (go_at_call 21; refine (crash_nil _ _).mono ?_; rintro e w' ⟨rfl, rfl⟩))
  go_ret
  exact ⟨rfl, B.out⟩
end Go.Proofs.Ytchibinlcedjaaa
