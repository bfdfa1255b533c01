import Derived.Test.YtaogloegiffioaaGreatDoorV1
set_option linter.all false
namespace Go.Proofs.YtaogloegiffioaaGreatDoor.V
open Go.RowKit
theorem first_c (w : World) (h : Nat) (hh : h < 18446744073709551616) :
    Calls Tryz.prog 100 #[.int .u64 (h : Int)] w fun e w' => e = .returned (.int .i64 ((h % 8 : Nat) : Int)) ∧ w = w' := by
  go_enter Tryz.func100, Tryz.ntmps100
  go_wp2_with (fail)
  go_ret
  exact ⟨rfl, rfl⟩
theorem tag_c (w : World) (h : Nat) (hh : h < 18446744073709551616) :
    Calls Tryz.prog 99 #[.int .u64 (h : Int)] w fun e w' => e = .returned (.int .i64 ((h / 256 % 32768 : Nat) : Int)) ∧ w = w' := by
  go_enter Tryz.func99, Tryz.ntmps99
  go_wp2_with (fail)
  go_ret
  exact ⟨rfl, rfl⟩
theorem bits_i64_nat (op : BinOp) (f : ∀ {n : Nat}, BitVec n → BitVec n → BitVec n) (g : Nat → Nat → Nat) (hf : ∀ x y : Int, bits op .i64 x y = IntKind.i64.wrap ((f (BitVec.ofInt 64 x) (BitVec.ofInt 64 y)).toNat : Int)) (hg : ∀ x y : BitVec 64, (f x y).toNat = g x.toNat y.toNat) (a b : Nat) (ha : a < 9223372036854775808) (hb : b < 9223372036854775808) (hc : g a b < 9223372036854775808) : bits op .i64 (a : Int) (b : Int) = ((g a b : Nat) : Int) := by
  rw [hf, hg, BitVec.toNat_ofInt, BitVec.toNat_ofInt]
  have e1 : ((a : Int) % ((2 ^ 64 : Nat) : Int)).toNat = a := by omega
  have e2 : ((b : Int) % ((2 ^ 64 : Nat) : Int)).toNat = b := by omega
  rw [e1, e2, IntKind.wrap_i64]
  omega
theorem xor_i64 (a b : Nat) (ha : a < 9223372036854775808) (hb : b < 9223372036854775808) : bits .xor .i64 (a : Int) (b : Int) = ((a ^^^ b : Nat) : Int) :=
  bits_i64_nat .xor (fun x y => x ^^^ y) _ (fun _ _ => rfl) (fun _ _ => BitVec.toNat_xor _ _) a b ha hb (Nat.xor_lt_two_pow (n := 63) ha hb)
theorem and1_i64 (k j : Nat) (hk : k < 256) : bits .and .i64 ((k : Int) / 2 ^ j) 1 = ((k / 2 ^ j % 2 : Nat) : Int) := by
  have e : (k : Int) / 2 ^ j = ((k / 2 ^ j : Nat) : Int) := by simp
  have hle : k / 2 ^ j ≤ k := Nat.div_le_self _ _
  rw [e, ← Nat.and_one_is_mod]
  exact bits_i64_nat .and (fun x y => x &&& y) _ (fun _ _ => rfl) (fun _ _ => BitVec.toNat_and _ _) (k / 2 ^ j) 1 (by omega) (by omega) (Nat.lt_of_le_of_lt Nat.and_le_left (by omega))
theorem other_c (w : World) (b t : Nat) (hb : b < 8) (ht : t < 32768) :
    Calls Tryz.prog 101 #[.int .i64 (b : Int), .int .i64 (t : Int)] w fun e w' => e = .returned (.int .i64 ((b ^^^ (1 + t % 7) : Nat) : Int)) ∧ w = w' := by
  go_enter Tryz.func101, Tryz.ntmps101
  go_wp2_with (fail)
  go_ret
  rw [show (1 : Int) + (t : Int) % 7 = ((1 + t % 7 : Nat) : Int) by omega]
  exact ⟨congrArg (fun z => Ending.returned (.int .i64 z)) (xor_i64 _ _ (by omega) (by omega)), rfl⟩
def bit (k j : Nat) : Nat := k / 2 ^ j % 2
def rooms (k : Nat) : Nat → Nat
  | 0 => 0
  | j + 1 => rooms k j + 4 * bit k j
def fB (h : Nat) : Nat := h % 8
def oB (h : Nat) : Nat := h % 8 ^^^ (1 + h / 256 % 32768 % 7)
def inS (k h : Nat) : Bool := bit k (fB h) == 1 && bit k (oB h) == 1
theorem rooms_le (k : Nat) : ∀ j, rooms k j ≤ 4 * j
  | 0 => Nat.le_refl _
  | j + 1 => by have := rooms_le k j; have : bit k j < 2 := Nat.mod_lt _ (by omega); unfold rooms; omega
theorem oB_lt (h : Nat) : oB h < 8 := Nat.xor_lt_two_pow (n := 3) (by omega) (by omega)
theorem br_tt {A B : Int} {u v N : Nat} (e1 : A = (u : Int)) (e2 : B = (v : Int)) (p : A = 1) (q : (B == 1) = true) : Value.int .i64 ((N : Int) + 1) = .int .i64 ((N + if (u == 1 && v == 1) = true then 1 else 0 : Nat) : Int) := by
  have h1 : u = 1 := by omega
  have q : B = 1 := by simpa using q
  have h2 : v = 1 := by omega
  rw [h1, h2]; rfl
theorem br_tf {A B : Int} {u v N : Nat} (e1 : A = (u : Int)) (e2 : B = (v : Int)) (q : (B == 1) = false) : Value.int .i64 (N : Int) = .int .i64 ((N + if (u == 1 && v == 1) = true then 1 else 0 : Nat) : Int) := by
  have q : ¬ B = 1 := by simpa using q
  rw [if_neg]
  · rfl
  · simp; omega
theorem br_tf' {A B : Int} {u v N : Nat} (e1 : A = (u : Int)) (e2 : B = (v : Int)) (q : ¬ (B == 1) = true) : Value.int .i64 (N : Int) = .int .i64 ((N + if (u == 1 && v == 1) = true then 1 else 0 : Nat) : Int) := br_tf e1 e2 (by simpa using q)
theorem br_f {A : Int} {u v N : Nat} (e1 : A = (u : Int)) (q : ¬ A = 1) : Value.int .i64 (N : Int) = .int .i64 ((N + if (u == 1 && v == 1) = true then 1 else 0 : Nat) : Int) := by
  rw [if_neg]
  · rfl
  · simp; omega
set_option maxRecDepth 20000 in
theorem room_c (w : World) (a : Option Addr) (cap : Nat) (l : List Nat) (hl : l.length ≤ 9223372036854775807) (hv : ∀ x ∈ l, x < 18446744073709551616)
    (hc : ∀ i (h : i < l.length), ∃ b off, a = some ⟨b, off, none⟩ ∧ w.cell? ⟨b, off + i, none⟩ = some (.int .u64 (l[i] : Int))) (HR : ∀ k, k < 256 → l.countP (inS k) ≤ rooms k 8) :
    Calls Tryz.prog 235 #[.slice a l.length cap] w fun e w' => e = .returned (.bool true) ∧ w = w' := by
  have HC := Lib.hid hc
  have HV := Lib.hid hv
  have HQ := Lib.hid HR
  clear hc hv HR
  go_enter Tryz.func235, Tryz.ntmps235
  go_wp2_with (fail)
  go_loopg [3] 256 (fun q s wr => ∃ k : Nat, k + q = 256 ∧ s = .int .i64 (k : Int) ∧ w = wr)
  case atStart => exact ⟨0, by omega, rfl, rfl⟩
  case round =>
    obtain ⟨k, hk, rfl, rfl⟩ := hrel
    by_cases hlt : k < 256
    · have i4 : (k : Int) < 256 := by omega
      go_wp2_with (fail)
      go_loopg [5, 6] 8 (fun q r s wr => ∃ j : Nat, j + q = 8 ∧ s = .int .i64 (j : Int) ∧ r = .int .i64 (rooms k j : Int) ∧ w = wr)
      case atStart => exact ⟨0, by omega, rfl, rfl, rfl⟩
      case round =>
        obtain ⟨j, hj, rfl, rfl, rfl⟩ := hrel
        by_cases hlt2 : j < 8
        · have i5 : (j : Int) < 8 := by omega
          go_wp2_with (fail)
          rw [and1_i64 k j hlt]
          have hb : bit k j < 2 := Nat.mod_lt _ (by omega)
          have hr := rooms_le k j
          have hstep : wrap64 ((rooms k j : Int) + wrap64 (4 * ((k / 2 ^ j % 2 : Nat) : Int))) = (rooms k (j + 1) : Int) := by
            show wrap64 ((rooms k j : Int) + wrap64 (4 * ((bit k j : Nat) : Int))) = ((rooms k j + 4 * bit k j : Nat) : Int)
            unfold wrap64
            omega
          rw [hstep]
          go_roundg (8 - (j + 1))
          case measure => omega
          case rel => exact ⟨j + 1, by omega, by go_num, rfl, rfl⟩
        · have ej : j = 8 := by omega
          subst ej
          go_wp2_with (fail)
          go_loopg [4, 7] l.length (fun q n i wr => ∃ m : Nat, m + q = l.length ∧ i = .int .i64 (m : Int) ∧ n = .int .i64 ((l.take m).countP (inS k) : Int) ∧ w = wr)
          case atStart => exact ⟨0, by omega, rfl, rfl, rfl⟩
          case round =>
            obtain ⟨m, hm, rfl, rfl, rfl⟩ := hrel
            by_cases hlt3 : m < l.length
            · have i6 : (m : Int) < (l.length : Int) := by omega
              obtain ⟨b, off, rfl, c1⟩ := HC.out m hlt3
              have hx := HV.out l[m] (List.getElem_mem hlt3)
              have hn : (l.take (m + 1)).countP (inS k) = (l.take m).countP (inS k) + if inS k l[m] then 1 else 0 := by
                rw [List.take_succ_eq_append_getElem hlt3, List.countP_append]
                simp [List.countP_cons]
              have hle : (l.take m).countP (inS k) ≤ m := Nat.le_trans List.countP_le_length (by simp; omega)
              generalize hN' : (l.take (m + 1)).countP (inS k) = N' at *
              generalize (l.take m).countP (inS k) = N at *
              generalize l[m] = x at *
              have F := first_c w x hx
              have T := tag_c w x hx
              have O := other_c w (x % 8) (x / 256 % 32768) (by omega) (by omega)
              have hf : x % 8 < 8 := by omega
              have ho := oB_lt x
              have hin : inS k x = (bit k (x % 8) == 1 && bit k (oB x) == 1) := rfl
              rw [show x % 8 ^^^ (1 + x / 256 % 32768 % 7) = oB x from rfl] at O
              generalize x % 8 = f at *
              generalize x / 256 % 32768 = t at *
              generalize oB x = o at *
              have HF := Lib.hid F
              have HT := Lib.hid T
              have HO := Lib.hid O
              have HN := Lib.hid hn
              have HI := Lib.hid hin
              clear F T O hn hin
              go_wp2_with (first | (go_at_call 100; refine (HF.out).mono ?_; rintro e w' ⟨rfl, rfl⟩) | (go_at_call 99; refine (HT.out).mono ?_; rintro e w' ⟨rfl, rfl⟩) | (go_at_call 101; refine (HO.out).mono ?_; rintro e w' ⟨rfl, rfl⟩))
              all_goals
                have e1 := and1_i64 k f hlt
                have e2 := and1_i64 k o hlt
                change bits .and .i64 ((k : Int) / 2 ^ f) 1 = ((bit k f : Nat) : Int) at e1
                change bits .and .i64 ((k : Int) / 2 ^ o) 1 = ((bit k o : Nat) : Int) at e2
                have hin := HI.out
                have hn := HN.out
                go_roundg (l.length - (m + 1))
                case measure => omega
                case rel =>
                  refine ⟨m + 1, by omega, by go_num, ?_, rfl⟩
                  rw [hN', hn, hin]
                  first
                  | exact br_tt e1 e2 (by assumption) (by assumption)
                  | exact br_tf e1 e2 (by assumption)
                  | exact br_tf' e1 e2 (by assumption)
                  | exact br_f e1 (by assumption)
            · have em : m = l.length := by omega
              subst em
              have hq := HQ.out k hlt
              rw [List.take_length]
              go_wp2_with (fail)
              go_roundg (256 - (k + 1))
              case measure => omega
              case rel => exact ⟨k + 1, by omega, by go_num, rfl⟩
    · go_wp2_with (fail)
      go_ret
      exact ⟨rfl, rfl⟩
end Go.Proofs.YtaogloegiffioaaGreatDoor.V
