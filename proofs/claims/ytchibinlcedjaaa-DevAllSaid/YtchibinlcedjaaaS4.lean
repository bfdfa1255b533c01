import Derived.Test.YtchibinlcedjaaaS3
namespace Go.Proofs.Ytchibinlcedjaaa
open Go.RowKit
def putIn (X : List UInt8) (off m n i : Nat) : List UInt8 := X.take (off + m - i) ++ ((be m n).drop (m - i) ++ X.drop (off + m))
theorem put_step (X : List UInt8) (off m n k : Nat) (hk : k < m) (hX : off + m ≤ X.length) : (putIn X off m n k).set (off + (m - 1 - k)) (UInt8.ofNat (n / 256 ^ k % 256)) = putIn X off m n (k + 1) := by
  have e1 : off + m - k = (off + m - (k + 1)) + 1 := by omega
  have e2 : m - k = m - (k + 1) + 1 := by omega
  have h1 : off + m - (k + 1) < X.length := by omega
  have h2 : m - (k + 1) < (be m n).length := by rw [be_len]; omega
  have h3 : (be m n)[m - (k + 1)] = UInt8.ofNat (n / 256 ^ k % 256) := by
    have := be_get m n (m - (k + 1)) (by omega)
    rw [List.getElem?_eq_getElem h2, show m - 1 - (m - (k + 1)) = k by omega] at this
    exact Option.some.inj this
  have h4 : (X.take (off + m - (k + 1))).length = off + m - (k + 1) := by simp; omega
  unfold putIn
  rw [e1, e2, List.take_succ_eq_append_getElem h1, List.append_assoc, List.set_append_right _ _ (by omega), h4, show off + (m - 1 - k) - (off + m - (k + 1)) = 0 by omega, List.drop_eq_getElem_cons h2, h3]
  rfl
set_option maxHeartbeats 1000000 in
theorem put_c (w : World) (g off m cap n : Nat) (X : List UInt8) (h : Bl w g 5 (bv X)) (hm : m ≤ 8) (hX : off + m ≤ X.length) :
    Calls Try.prog 44 #[.slice (some ⟨g, off, none⟩) m cap, .int .u64 (n : Int)] w fun e w' => e = .returned (.tuple #[]) ∧ Bl w' g 5 (bv (putIn X off m n m)) ∧ Fr [g] w w' := by
  go_enter Try.func44, Try.ntmps44
  go_wp2_with (fail)
  go_loopg [4, 7] m (fun q _ i wr => ∃ k : Nat, k + q = m ∧ i = .int .i64 (k : Int) ∧ Bl wr g 5 (bv (putIn X off m n k)) ∧ Fr [g] w wr)
  case atStart => exact ⟨0, by omega, rfl, by simpa [putIn, be_len, List.drop_of_length_le] using h, Fr.refl _ _⟩
  case round =>
    obtain ⟨k, hk, rfl, hb, fr⟩ := hrel
    by_cases hlt : k < m
    · have i4 : (k : Int) < (m : Int) := by omega
      have c5 : ∃ y, wr.cell? ⟨g, off + (m - 1 - k), none⟩ = some y := ⟨_, by rw [hb.cell, List.getElem?_eq_getElem (by simp [bv_len, putIn, be_len]; omega)]⟩
      obtain ⟨y, c5⟩ := c5
      have f5 := hb.free (off + (m - 1 - k))
      have hset := hb.set (off + (m - 1 - k)) (.int .u8 (((UInt8.ofNat (n / 256 ^ k % 256)).toNat : Nat) : Int))
      have e6 : (bv (putIn X off m n k)).set (off + (m - 1 - k)) (.int .u8 (((UInt8.ofNat (n / 256 ^ k % 256)).toNat : Nat) : Int)) = bv (putIn X off m n (k + 1)) := by
        rw [← put_step X off m n k hlt hX]
        simp [bv, List.map_set]
      have e7 : (((UInt8.ofNat (n / 256 ^ k % 256)).toNat : Nat) : Int) = (n : Int) / 2 ^ (8 * k) % 256 := by
        have : (UInt8.ofNat (n / 256 ^ k % 256)).toNat = n / 256 ^ k % 256 := by rw [UInt8.toNat_ofNat']; omega
        have h8 : (2 : Int) ^ (8 * k) = ((256 ^ k : Nat) : Int) := by
          have h9 : ((2 ^ (8 * k) : Nat) : Int) = (2 : Int) ^ (8 * k) := by simp
          rw [← h9, Nat.pow_mul]
        rw [this, h8, Int.natCast_emod, Int.natCast_ediv]
        rfl
      rw [e6, e7] at hset
      have HS := Lib.hid hset
      have FR := Lib.hid (fr.setCell (p := ⟨g, off + (m - 1 - k), none⟩) (by simp) (.int .u8 ((n : Int) / 2 ^ (8 * k) % 256)))
      clear hset e6 e7 hb fr
      go_wp2_with (fail)
      go_roundg (m - (k + 1))
      case measure => omega
      case rel => exact ⟨k + 1, by omega, by go_num, HS.out, FR.out⟩
    · have e : k = m := by omega
      subst e
      have HB := Lib.hid hb
      have FR := Lib.hid fr
      clear hb fr
      go_wp2_with (fail)
      go_end0
      exact ⟨rfl, HB.out, FR.out⟩
end Go.Proofs.Ytchibinlcedjaaa
