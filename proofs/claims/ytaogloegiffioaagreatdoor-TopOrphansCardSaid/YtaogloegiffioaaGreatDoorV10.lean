import Derived.Test.YtaogloegiffioaaGreatDoorV0
set_option linter.all false
namespace Go.Proofs.YtaogloegiffioaaGreatDoor.V
open Go.RowKit
def cstep (x : BitVec 32) : BitVec 32 := (x >>> 1) ^^^ (0xedb88320#32 &&& (-(x &&& 1#32)))
def csteps : Nat → BitVec 32 → BitVec 32
  | 0, x => x
  | n + 1, x => cstep (csteps n x)
def cbyte (x : BitVec 32) (c : UInt8) : BitVec 32 := csteps 8 (x ^^^ BitVec.ofNat 32 c.toNat)
def crc (x : BitVec 32) (l : List UInt8) : BitVec 32 := ~~~ (l.foldl cbyte (~~~ x))
abbrev u32 (x : BitVec 32) : Value := .int .u32 (x.toNat : Int)
theorem bits_u32 (x y : BitVec 32) (op : BinOp) (f : BitVec 32 → BitVec 32 → BitVec 32)
  (hf : ∀ x y : Int, bits op .u32 x y = IntKind.u32.wrap (f (BitVec.ofInt 32 x) (BitVec.ofInt 32 y)).toNat) : bits op .u32 (x.toNat : Int) (y.toNat : Int) = ((f x y).toNat : Int) := by
  rw [hf]
  have h := (f x y).isLt
  simp [IntKind.wrap, IntKind.bits, IntKind.signed]
  try omega
theorem cxor (x y : BitVec 32) : bits .xor .u32 (x.toNat : Int) (y.toNat : Int) = ((x ^^^ y).toNat : Int) := bits_u32 x y .xor _ fun _ _ => rfl
theorem cand (x y : BitVec 32) : bits .and .u32 (x.toNat : Int) (y.toNat : Int) = ((x &&& y).toNat : Int) := bits_u32 x y .and _ fun _ _ => rfl
theorem cA (x : BitVec 32) : bits .xor .u32 IntKind.u32.max ↑x.toNat = ((~~~x).toNat : Int) := by
  have := cxor (BitVec.allOnes 32) x
  have e : ((BitVec.allOnes 32).toNat : Int) = IntKind.u32.max := by decide
  rw [← e, this, BitVec.allOnes_xor]
theorem cB (y : BitVec 32) (c : UInt8) : bits .xor .u32 (y.toNat : Int) ((c.toNat : Int) % 4294967296) = ((y ^^^ BitVec.ofNat 32 c.toNat).toNat : Int) := by
  rw [← cxor]
  congr 1
  try simp
theorem cC (z : BitVec 32) : bits .xor .u32 ((z.toNat : Int) / 2) (bits .and .u32 3988292384 (-bits .and .u32 (z.toNat : Int) 1 % 4294967296)) = ((cstep z).toNat : Int) := by
  have h1 : bits .and .u32 (z.toNat : Int) 1 = ((z &&& 1#32).toNat : Int) := cand z 1#32
  rw [h1]
  have h2 : -((z &&& 1#32).toNat : Int) % 4294967296 = ((-(z &&& 1#32)).toNat : Int) := by
    have := (z &&& 1#32).isLt
    rw [BitVec.toNat_neg]
    omega
  rw [h2]
  have h3 : bits .and .u32 3988292384 ((-(z &&& 1#32)).toNat : Int) = ((0xedb88320#32 &&& -(z &&& 1#32)).toNat : Int) := cand 0xedb88320#32 _
  rw [h3]
  have h4 : (z.toNat : Int) / (2 : Int) = ((z >>> 1).toNat : Int) := by
    rw [BitVec.toNat_ushiftRight, Nat.shiftRight_eq_div_pow]
    omega
  rw [h4, cxor]; rfl
set_option maxHeartbeats 400000 in
theorem more_any (x : BitVec 32) (b off cap : Nat) (l : List UInt8) (w : World) (hl : l.length ≤ 9223372036854775807)
   (hc : ∀ i (h : i < l.length), w.cell? ⟨b, off + i, none⟩ = some (.int .u8 l[i].toNat)) :
    Calls Tryz.prog 313 #[u32 x, .slice (some ⟨b, off, none⟩) l.length cap] w fun e w' => e = .returned (u32 (crc x l)) ∧ w = w' := by
  go_enter Tryz.func313, Tryz.ntmps313
  go_wp2
  go_loop [5, 7, 12] (fun s _ i => ∃ k : Nat, k ≤ l.length ∧ i = .int .i64 k ∧ s = u32 ((l.take k).foldl cbyte (~~~ x))) (fun _ _ i => l.length - (intOf i).toNat)
  case atStart => exact ⟨0, by omega, rfl, by simp [cA]⟩
  case round =>
    obtain ⟨k, hk, rfl, rfl⟩ := hrel
    by_cases hlt : k < l.length
    · have hcell := hc k hlt
      have hnext : Hid ((l.take (k+1)).foldl cbyte (~~~ x) = cbyte ((l.take k).foldl cbyte (~~~ x)) l[k]) := by
        show _ = _
        rw [List.take_succ_eq_append_getElem hlt, List.foldl_append]; rfl
      clear hc
      generalize l[k] = c at *
      generalize ((l.take k).foldl cbyte (~~~ x)) = y at *
      go_wp2
      go_loop [5, 20] (fun s i => ∃ k : Nat, k ≤ 8 ∧ i = .int .i64 k ∧ s = u32 (csteps k (y ^^^ BitVec.ofNat 32 c.toNat))) (fun _ i => 8 - (intOf i).toNat)
      case atStart => exact ⟨0, by omega, rfl, by rw [cB]; rfl⟩
      case round =>
        obtain ⟨j, hj, rfl, rfl⟩ := hrel
        have hs : Hid (csteps (j+1) (y ^^^ BitVec.ofNat 32 c.toNat) = cstep (csteps j (y ^^^ BitVec.ofNat 32 c.toNat))) := rfl
        generalize hz : csteps j (y ^^^ BitVec.ofNat 32 c.toNat) = z at *
        replace hz := Lib.hid hz
        go_wp2
        · go_round
          case rel => refine ⟨j + 1, by omega, by go_num, ?_⟩; rw [hs.out, cC]
          case measure => simp [intOf]; omega
        · go_round
          case rel =>
            have e : j = 8 := by omega
            subst e
            exact ⟨k + 1, by omega, by go_num, by rw [hnext.out, ← hz.out]; rfl⟩
          case measure => simp [intOf]; omega
    · go_wp2
      go_ret
      have e : k = l.length := by omega
      subst e
      rw [cA, List.take_length]
      exact ⟨rfl, rfl⟩
theorem more_none (x : BitVec 32) (a : Option Addr) (cap : Nat) (w : World) :
    Calls Tryz.prog 313 #[u32 x, .slice a 0 cap] w fun e w' => e = .returned (u32 x) ∧ w = w' := by
  obtain ⟨y, hy⟩ : ∃ y, Hid (~~~ x = y) := ⟨_, rfl⟩
  go_enter Tryz.func313, Tryz.ntmps313
  go_wp2
  go_loop [5, 7, 12] (fun s _ i => i = .int .i64 0 ∧ s = u32 y) (fun _ _ i => 0)
  case atStart => exact ⟨rfl, by rw [cA, hy.out]⟩
  case round =>
    obtain ⟨rfl, rfl⟩ := hrel
    go_wp2
    go_ret
    rw [cA, ← hy.out, BitVec.not_not]
    exact ⟨rfl, rfl⟩
end Go.Proofs.YtaogloegiffioaaGreatDoor.V
