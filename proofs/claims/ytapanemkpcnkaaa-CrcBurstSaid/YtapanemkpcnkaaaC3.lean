import Derived.Test.YtapanemkpcnkaaaC2
import Derived.StillTailTactics
namespace Go.Proofs.Ytapanemkpcnkaaa
open Go.RowKit
theorem xor8 (x y : UInt8) : bits .xor .u8 (x.toNat : Int) (y.toNat : Int) = ((x ^^^ y).toNat : Int) := by
  have h : bits .xor .u8 (x.toNat : Int) (y.toNat : Int) = IntKind.u8.wrap (BitVec.ofInt 8 x.toNat ^^^ BitVec.ofInt 8 y.toNat).toNat := rfl
  have e : ∀ z : UInt8, BitVec.ofInt 8 (z.toNat : Int) = z.toBitVec := by
    intro z
    apply BitVec.eq_of_toNat_eq
    simp
  rw [h, e, e]
  have h2 : x.toNat ^^^ y.toNat < 256 := by simpa using (x ^^^ y).toNat_lt
  simp [IntKind.wrap, IntKind.bits, IntKind.signed]
  omega

/-! ### the sum is affine -/
theorem cstep_zero : cstep 0#32 = 0#32 := by decide
theorem cstep_xor (x y : BitVec 32) : cstep (x ^^^ y) = cstep x ^^^ cstep y := by
  have hb : ∀ z : BitVec 32, -(z &&& 1#32) = if z.getLsbD 0 then BitVec.allOnes 32 else 0#32 := by
    intro z
    have : z &&& 1#32 = if z.getLsbD 0 then 1#32 else 0#32 := by
      apply BitVec.eq_of_getLsbD_eq
      intro i hi
      by_cases h0 : i = 0
      · subst h0; cases h : z.getLsbD 0 <;> simpa using h
      · cases z.getLsbD 0 <;> simp [h0]
    rw [this]
    split <;> decide
  unfold cstep
  rw [hb, hb, hb, BitVec.getLsbD_xor, BitVec.ushiftRight_xor_distrib]
  cases x.getLsbD 0 <;> cases y.getLsbD 0 <;> simp
  · ac_rfl
  · ac_rfl
  · generalize x >>> 1 = p
    generalize y >>> 1 = q
    rw [show (p ^^^ 3988292384#32 ^^^ (q ^^^ 3988292384#32)) = (p ^^^ q) ^^^ (3988292384#32 ^^^ 3988292384#32) by ac_rfl, BitVec.xor_self, BitVec.xor_zero]
theorem csteps_xor (n : Nat) (x y : BitVec 32) : csteps n (x ^^^ y) = csteps n x ^^^ csteps n y := by
  induction n with
  | zero => rfl
  | succ n ih => simp only [csteps, ih, cstep_xor]
/-- The sum without the two turns. -/
def raw (x : BitVec 32) (l : List UInt8) : BitVec 32 := l.foldl cbyte x
theorem ofNat_xor (a b : UInt8) : BitVec.ofNat 32 (a ^^^ b).toNat = BitVec.ofNat 32 a.toNat ^^^ BitVec.ofNat 32 b.toNat := by
  apply BitVec.eq_of_toNat_eq
  have h1 := a.toNat_lt
  have h2 := b.toNat_lt
  have h3 := (a ^^^ b).toNat_lt
  have e : (a ^^^ b).toNat = a.toNat ^^^ b.toNat := by simp
  simp only [BitVec.toNat_ofNat, BitVec.toNat_xor]
  rw [Nat.mod_eq_of_lt (by omega), Nat.mod_eq_of_lt (by omega), Nat.mod_eq_of_lt (by omega), e]
theorem cbyte_xor (x y : BitVec 32) (a b : UInt8) : cbyte (x ^^^ y) (a ^^^ b) = cbyte x a ^^^ cbyte y b := by
  unfold cbyte
  rw [ofNat_xor, ← csteps_xor]
  congr 1
  ac_rfl
theorem raw_xor : ∀ (n : Nat) (a b : List UInt8), a.length = n → b.length = n → ∀ x y, raw (x ^^^ y) (List.zipWith (· ^^^ ·) a b) = raw x a ^^^ raw y b
  | 0, [], [], _, _, _, _ => rfl
  | n + 1, a :: xs, b :: ys, h1, h2, x, y => by
    have := raw_xor n xs ys (by simpa using h1) (by simpa using h2) (cbyte x a) (cbyte y b)
    simp only [raw, List.zipWith_cons_cons, List.foldl_cons] at this ⊢
    rw [cbyte_xor]
    exact this
theorem crc_three (n : Nat) (a b c : List UInt8) (ha : a.length = n) (hb : b.length = n) (hc : c.length = n) :
    crc 0#32 (List.zipWith (· ^^^ ·) (List.zipWith (· ^^^ ·) a b) c) = crc 0#32 a ^^^ crc 0#32 b ^^^ crc 0#32 c := by
  have h1 := raw_xor n a b ha hb (~~~ 0#32) (~~~ 0#32)
  have h2 := raw_xor n (List.zipWith (· ^^^ ·) a b) c (by simp; omega) hc (~~~ 0#32 ^^^ ~~~ 0#32) (~~~ 0#32)
  rw [h1] at h2
  have e : (~~~ 0#32 ^^^ ~~~ 0#32 ^^^ ~~~ 0#32) = ~~~ 0#32 := by decide
  rw [e] at h2
  unfold crc
  show ~~~ raw _ _ = ~~~ raw _ _ ^^^ ~~~ raw _ _ ^^^ ~~~ raw _ _
  rw [h2]
  generalize raw (~~~0#32) a = p
  generalize raw (~~~0#32) b = q
  generalize raw (~~~0#32) c = r
  rw [← BitVec.allOnes_xor, ← BitVec.allOnes_xor, ← BitVec.allOnes_xor, ← BitVec.allOnes_xor]
  rw [show (BitVec.allOnes 32 ^^^ p ^^^ (BitVec.allOnes 32 ^^^ q) ^^^ (BitVec.allOnes 32 ^^^ r)) = BitVec.allOnes 32 ^^^ BitVec.allOnes 32 ^^^ (BitVec.allOnes 32 ^^^ (p ^^^ q ^^^ r)) by ac_rfl, BitVec.xor_self, BitVec.zero_xor]
end Go.Proofs.Ytapanemkpcnkaaa
