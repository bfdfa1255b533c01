import Derived.Test.YtchibinlcedjaaaS15
namespace Go.Proofs.Ytchibinlcedjaaa
open Go.RowKit
set_option maxHeartbeats 1000000 in
theorem superNone_walk (w : World) : Calls Try.prog 9 #[] w fun e w' => e = .returned (.bool true) ∧ Below w.heap.size w w' := by
  obtain ⟨Z, hZ⟩ : ∃ Z : List UInt8, Hid (Z = List.replicate 41 0) := ⟨_, rfl⟩
  have hmk := run_make_bytes 41 (by decide) (by decide)
  rw [show (41 : Int).toNat = 41 from rfl, ← hZ.out] at hmk
  have hZl : Z.length = 41 := by rw [hZ.out, List.length_replicate]
  go_enter Try.func9, Try.ntmps9
  go_wp2_with (fail)
  refine (new_k w 2).mono ?_
  rintro e w1 ⟨⟨p, b, rfl, hp, hb, hD⟩, bel1⟩
  have B1 := Lib.hid bel1
  have hz1 := bel1.size
  clear bel1 hD
  go_wp2_with (fail)
  have hsl := (Bl.new w1 5 (bv Z)).sl (by omega)
  rw [hZl] at hsl
  refine (make_long _ _ 0 _ Z _ hsl (by omega)).mono ?_
  rintro e w' ⟨rfl, rfl⟩
  have B2 := Lib.hid (B1.out.alloc hz1 (.cells (bv Z).toArray 5))
  have hz2 := B2.out.size
  clear hsl hmk
  generalize w1.alloc (.cells (bv Z).toArray 5) = w2 at *
  go_wp2_with (fail)
  refine (open_nil w2 0 (by decide)).mono ?_
  rintro e w' ⟨rfl, rfl⟩
  go_wp2_with (fail)
  refine (begun12_c w2).mono ?_
  rintro e w3 ⟨rfl, bel3⟩
  have B3 := Lib.hid (B2.out.trans (bel3.mono hz2))
  clear bel3
  go_wp2_with (first | (go_at_call 33; refine (save_nil w3 _).mono ?_; rintro e w' ⟨rfl, rfl⟩) | (go_at_call 34; refine (text_nil w3).mono ?_; rintro e w' ⟨rfl, rfl⟩) | (go_at_call 35; refine (turn_nil w3).mono ?_; rintro e w' ⟨rfl, rfl⟩))
  go_ret
  exact ⟨rfl, B3.out⟩
end Go.Proofs.Ytchibinlcedjaaa
