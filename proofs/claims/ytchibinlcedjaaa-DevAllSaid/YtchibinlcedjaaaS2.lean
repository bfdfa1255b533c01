import Derived.Test.YtchibinlcedjaaaS1
namespace Go.Proofs.Ytchibinlcedjaaa
open Go.RowKit
/-- The number of bytes, the greatest first. -/
def num : List UInt8 → Nat → Nat
  | [], n => n
  | c :: l, n => num l (n * 256 + c.toNat)
theorem num_app : ∀ (a b : List UInt8) (n : Nat), num (a ++ b) n = num b (num a n)
  | [], _, _ => rfl
  | _ :: a, b, _ => num_app a b _
theorem num_lt : ∀ (l : List UInt8) (n k : Nat), n < 256 ^ k → num l n < 256 ^ (k + l.length)
  | [], n, k, h => by simpa [num] using h
  | c :: l, n, k, h => by
    have hc := c.toNat_lt
    have := num_lt l (n * 256 + c.toNat) (k + 1) (by rw [Nat.pow_succ]; omega)
    rw [List.length_cons, show k + (l.length + 1) = k + 1 + l.length by omega]
    exact this
theorem or_add (n c : Nat) (hn : n * 256 < 18446744073709551616) (hc : c < 256) : bits .or .u64 ((n * 256 : Nat) : Int) (c : Int) = ((n * 256 + c : Nat) : Int) := by
  have h := bits_or_u64_nat (n * 256) c hn (by omega)
  rw [h]
  congr 1
  have := Nat.two_pow_add_eq_or_of_lt (i := 8) (b := c) (by omega) n
  rw [Nat.mul_comm] at this
  exact this.symm
set_option maxHeartbeats 1000000 in
theorem get_c (v : Value) (l : List UInt8) (w : World) (B : Nat) (h : Sl w B v l) (hl : l.length ≤ 8) :
    Calls Try.prog 42 #[v] w fun e w' => e = .returned (.int .u64 ((num l 0 : Nat) : Int)) ∧ w = w' := by
  obtain ⟨a, cap, rfl, _⟩ := Sv.form h
  have H := Lib.hid h
  clear h
  go_enter Try.func42, Try.ntmps42
  go_wp2_with (fail)
  go_loopg [3, 5, 8] l.length (fun q z _ i wr => ∃ k : Nat, k + q = l.length ∧ i = .int .i64 (k : Int) ∧ z = .int .u64 ((num (l.take k) 0 : Nat) : Int) ∧ w = wr)
  case atStart => exact ⟨0, by omega, rfl, by simp [num], rfl⟩
  case round =>
    obtain ⟨k, hk, rfl, rfl, rfl⟩ := hrel
    by_cases hlt : k < l.length
    · obtain ⟨b, off, rfl, hb, c1⟩ := H.out.at_ k hlt
      have hn : num (l.take (k + 1)) 0 = num (l.take k) 0 * 256 + l[k].toNat := by
        rw [List.take_succ_eq_append_getElem hlt, num_app]; rfl
      have hb1 : num (l.take k) 0 < 256 ^ 7 := by
        have := num_lt (l.take k) 0 0 (by simp)
        rw [List.length_take, Nat.zero_add, Nat.min_eq_left (by omega)] at this
        exact Nat.lt_of_lt_of_le this (Nat.pow_le_pow_right (by omega) (by omega))
      have hc := l[k].toNat_lt
      have i4 : (k : Int) < (l.length : Int) := by omega
      generalize l[k] = c at *
      generalize num (l.take k) 0 = m at *
      have hor := or_add m c.toNat (by omega) hc
      have HN := Lib.hid hn
      clear hn
      go_wp2_with (fail)
      go_roundg (l.length - (k + 1))
      case measure => omega
      case rel => exact ⟨k + 1, by omega, by go_num, by rw [HN.out, ← hor, Int.natCast_mul]; rfl, rfl⟩
    · have e : k = l.length := by omega
      subst e
      rw [List.take_length]
      go_wp2_with (fail)
      go_ret
      exact ⟨rfl, rfl⟩
end Go.Proofs.Ytchibinlcedjaaa
