import Derived.Test.YtchibinlcedjaaaS2
namespace Go.Proofs.Ytchibinlcedjaaa
open Go.RowKit
/-- A number in `m` bytes, the greatest first. -/
def be : Nat → Nat → List UInt8
  | 0, _ => []
  | m + 1, n => be m (n / 256) ++ [UInt8.ofNat (n % 256)]
theorem be_len : ∀ (m n : Nat), (be m n).length = m
  | 0, _ => rfl
  | m + 1, n => by simp [be, be_len m]
theorem num_be : ∀ (m n : Nat), num (be m n) 0 = n % 256 ^ m
  | 0, n => by simp [be, num, Nat.mod_one]
  | m + 1, n => by
    rw [be, num_app, num_be m]
    simp only [num]
    have h1 : (UInt8.ofNat (n % 256)).toNat = n % 256 := by
      rw [UInt8.toNat_ofNat']
      omega
    rw [h1, Nat.pow_succ, Nat.mul_comm (256 ^ m) 256, Nat.mod_mul]
    omega
/-- The last `i` bytes of it stand. -/
theorem be_last : ∀ (m n : Nat), (be (m + 1) n).drop m = [UInt8.ofNat (n % 256)]
  | m, n => by
    rw [be, List.drop_append, be_len, List.drop_of_length_le (by rw [be_len]; exact Nat.le_refl _)]
    simp
theorem be_get (m n j : Nat) (hj : j < m) : (be m n)[j]? = some (UInt8.ofNat (n / 256 ^ (m - 1 - j) % 256)) := by
  induction m generalizing n with
  | zero => omega
  | succ m ih =>
    rw [be]
    by_cases h : j < m
    · rw [List.getElem?_append_left (by rw [be_len]; exact h), ih (n / 256) h, Nat.div_div_eq_div_mul, show m + 1 - 1 - j = (m - 1 - j) + 1 by omega, Nat.pow_succ, Nat.mul_comm 256]
    · rw [List.getElem?_append_right (by rw [be_len]; omega), be_len, show j - m = 0 by omega, show m + 1 - 1 - j = 0 by omega]
      simp
end Go.Proofs.Ytchibinlcedjaaa
