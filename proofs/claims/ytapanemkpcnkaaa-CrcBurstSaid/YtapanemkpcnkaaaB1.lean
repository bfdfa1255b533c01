import Derived.Test.YtapanemkpcnkaaaRows
import Derived.WalkKit
import Derived.WalkSpells
import Derived.WalkLawsBesides
import Derived.Deep.QuietTactic
import Derived.BigQuiet
import Derived.Lib.Hide
import Derived.OpenShut
import Derived.Lib.SlBytesConst
import Derived.Laws.AppendOwnNone
namespace Go.Proofs.Ytapanemkpcnkaaa
open Go.RowKit

/-- The slice value `v` reads as the bytes `l`; where there is one it lies below block `B`. -/
def Sl (w : World) (B : Nat) (v : Value) (l : List UInt8) : Prop :=
  l.length ≤ 9223372036854775807 ∧ ∃ a cap, v = .slice a l.length cap ∧ l.length ≤ cap ∧ cap ≤ maxLen ∧ (a = none → cap = 0) ∧ (l = [] ∨ ∃ b off, a = some ⟨b, off, none⟩ ∧ b < B ∧ ∀ i (h : i < l.length), w.cell? ⟨b, off + i, none⟩ = some (.int .u8 l[i].toNat))
theorem cell_new (w : World) (cs : Array Value) (e : TypeId) (fr : Nat × Nat) (o : Nat) : (w.alloc (.cells cs e fr)).cell? ⟨w.heap.size, o, none⟩ = cs[o]? := by
  show World.cell? ⟨w.heap.push _, _, _, _, _⟩ _ = _
  simp [World.cell?]
/-- The cells of bytes. -/
def bv (l : List UInt8) : List Value := l.map fun c => .int .u8 (c.toNat : Int)
theorem Sl.new (w : World) (l : List UInt8) (e : TypeId) (fr : Nat × Nat) (cap : Nat) (hl : l.length ≤ 9223372036854775807) (h1 : l.length ≤ cap) (h2 : cap ≤ maxLen) :
    Sl (w.alloc (.cells (bv l).toArray e fr)) (w.heap.size + 1) (.slice (some ⟨w.heap.size, 0, none⟩) l.length cap) l := by
  refine ⟨hl, _, cap, rfl, h1, h2, by simp, .inr ⟨_, 0, rfl, by omega, fun i hi => ?_⟩⟩
  rw [cell_new]
  simp [bv, hi]
theorem Sl.keep {w w' : World} {B B' : Nat} {v : Value} {l : List UInt8} (h : Sl w B v l) (hB : B ≤ B') (hk : ∀ b o, b < B → w'.cell? ⟨b, o, none⟩ = w.cell? ⟨b, o, none⟩) : Sl w' B' v l := by
  obtain ⟨hl, a, cap, e, h0, h1, hn, h2⟩ := h
  refine ⟨hl, a, cap, e, h0, h1, hn, h2.imp id ?_⟩
  rintro ⟨b, off, e1, hb, hc⟩
  exact ⟨b, off, e1, by omega, fun i hi => (hk _ _ hb).trans (hc i hi)⟩
theorem Sl.below {w w' : World} {B B' B0 : Nat} {v : Value} {l : List UInt8} (h : Sl w B v l) (hB : B ≤ B') (hb : Below B0 w w') (h0 : B ≤ B0) : Sl w' B' v l :=
  h.keep hB fun b o hlt => hb.cell (p := ⟨b, o, none⟩) (show b < B0 by omega)
theorem Sl.nil (w : World) (B : Nat) : Sl w B (.slice none 0 0) [] := ⟨by simp, none, 0, rfl, by simp, by simp [maxLen], fun _ => rfl, .inl rfl⟩

def cstep (x : BitVec 32) : BitVec 32 := (x >>> 1) ^^^ (0xedb88320#32 &&& (-(x &&& 1#32)))
def csteps : Nat → BitVec 32 → BitVec 32
  | 0, x => x
  | n + 1, x => cstep (csteps n x)
def cbyte (x : BitVec 32) (c : UInt8) : BitVec 32 := csteps 8 (x ^^^ BitVec.ofNat 32 c.toNat)
def crc (x : BitVec 32) (l : List UInt8) : BitVec 32 := ~~~ (l.foldl cbyte (~~~ x))
abbrev u32 (x : BitVec 32) : Value := .int .u32 (x.toNat : Int)
theorem bits_u32 (x y : BitVec 32) (op : BinOp) (f : BitVec 32 → BitVec 32 → BitVec 32)
  (hf : ∀ x y : Int, bits op .u32 x y = IntKind.u32.wrap (f (BitVec.ofInt 32 x) (BitVec.ofInt 32 y)).toNat) : bits op .u32 (x.toNat : Int) (y.toNat : Int) = ((f x y).toNat : Int) := by
  rw [hf]
  have h := (f x y).isLt
  simp [IntKind.wrap, IntKind.bits, IntKind.signed]
  try omega
theorem cxor (x y : BitVec 32) : bits .xor .u32 (x.toNat : Int) (y.toNat : Int) = ((x ^^^ y).toNat : Int) := bits_u32 x y .xor _ fun _ _ => rfl
theorem cand (x y : BitVec 32) : bits .and .u32 (x.toNat : Int) (y.toNat : Int) = ((x &&& y).toNat : Int) := bits_u32 x y .and _ fun _ _ => rfl

theorem cA (x : BitVec 32) : bits .xor .u32 IntKind.u32.max ↑x.toNat = ((~~~x).toNat : Int) := by
  have := cxor (BitVec.allOnes 32) x
  have e : ((BitVec.allOnes 32).toNat : Int) = IntKind.u32.max := by decide
  rw [← e, this, BitVec.allOnes_xor]
theorem cB (y : BitVec 32) (c : UInt8) : bits .xor .u32 (y.toNat : Int) ((c.toNat : Int) % 4294967296) = ((y ^^^ BitVec.ofNat 32 c.toNat).toNat : Int) := by
  rw [← cxor]
  congr 1
  try simp
theorem cC (z : BitVec 32) : bits .xor .u32 ((z.toNat : Int) / 2) (bits .and .u32 3988292384 (-bits .and .u32 (z.toNat : Int) 1 % 4294967296)) = ((cstep z).toNat : Int) := by
  have h1 : bits .and .u32 (z.toNat : Int) 1 = ((z &&& 1#32).toNat : Int) := cand z 1#32
  rw [h1]
  have h2 : -((z &&& 1#32).toNat : Int) % 4294967296 = ((-(z &&& 1#32)).toNat : Int) := by
    have := (z &&& 1#32).isLt
    rw [BitVec.toNat_neg]
    omega
  rw [h2]
  have h3 : bits .and .u32 3988292384 ((-(z &&& 1#32)).toNat : Int) = ((0xedb88320#32 &&& -(z &&& 1#32)).toNat : Int) := cand 0xedb88320#32 _
  rw [h3]
  have h4 : (z.toNat : Int) / (2 : Int) = ((z >>> 1).toNat : Int) := by
    rw [BitVec.toNat_ushiftRight, Nat.shiftRight_eq_div_pow]
    omega
  rw [h4, cxor]; rfl

set_option maxHeartbeats 400000 in
theorem more_any (x : BitVec 32) (b off cap : Nat) (l : List UInt8) (w : World) (hl : l.length ≤ 9223372036854775807)
   (hc : ∀ i (h : i < l.length), w.cell? ⟨b, off + i, none⟩ = some (.int .u8 l[i].toNat)) :
    Calls Try.prog 12 #[u32 x, .slice (some ⟨b, off, none⟩) l.length cap] w fun e w' => e = .returned (u32 (crc x l)) ∧ w = w' := by
  go_enter Try.func12, Try.ntmps12
  go_wp2
  go_loop [5, 7, 12] (fun s _ i => ∃ k : Nat, k ≤ l.length ∧ i = .int .i64 k ∧ s = u32 ((l.take k).foldl cbyte (~~~ x))) (fun _ _ i => l.length - (intOf i).toNat)
  case atStart => exact ⟨0, by omega, rfl, by simp [cA]⟩
  case round =>
    obtain ⟨k, hk, rfl, rfl⟩ := hrel
    by_cases hlt : k < l.length
    · have hcell := hc k hlt
      have hnext : Hid ((l.take (k+1)).foldl cbyte (~~~ x) = cbyte ((l.take k).foldl cbyte (~~~ x)) l[k]) := by
        show _ = _
        rw [List.take_succ_eq_append_getElem hlt, List.foldl_append]; rfl
      clear hc
      generalize l[k] = c at *
      generalize ((l.take k).foldl cbyte (~~~ x)) = y at *
      go_wp2
      go_loop [5, 20] (fun s i => ∃ k : Nat, k ≤ 8 ∧ i = .int .i64 k ∧ s = u32 (csteps k (y ^^^ BitVec.ofNat 32 c.toNat))) (fun _ i => 8 - (intOf i).toNat)
      case atStart => exact ⟨0, by omega, rfl, by rw [cB]; rfl⟩
      case round =>
        obtain ⟨j, hj, rfl, rfl⟩ := hrel
        have hs : Hid (csteps (j+1) (y ^^^ BitVec.ofNat 32 c.toNat) = cstep (csteps j (y ^^^ BitVec.ofNat 32 c.toNat))) := rfl
        generalize hz : csteps j (y ^^^ BitVec.ofNat 32 c.toNat) = z at *
        replace hz := Lib.hid hz
        go_wp2
        · go_round
          case rel => refine ⟨j + 1, by omega, by go_num, ?_⟩; rw [hs.out, cC]
          case measure => simp [intOf]; omega
        · go_round
          case rel =>
            have e : j = 8 := by omega
            subst e
            exact ⟨k + 1, by omega, by go_num, by rw [hnext.out, ← hz.out]; rfl⟩
          case measure => simp [intOf]; omega
    · go_wp2
      go_ret
      have e : k = l.length := by omega
      subst e
      rw [cA, List.take_length]
      exact ⟨rfl, rfl⟩

theorem more_none (x : BitVec 32) (a : Option Addr) (cap : Nat) (w : World) :
    Calls Try.prog 12 #[u32 x, .slice a 0 cap] w fun e w' => e = .returned (u32 x) ∧ w = w' := by
  obtain ⟨y, hy⟩ : ∃ y, Hid (~~~ x = y) := ⟨_, rfl⟩
  go_enter Try.func12, Try.ntmps12
  go_wp2
  go_loop [5, 7, 12] (fun s _ i => i = .int .i64 0 ∧ s = u32 y) (fun _ _ i => 0)
  case atStart => exact ⟨rfl, by rw [cA, hy.out]⟩
  case round =>
    obtain ⟨rfl, rfl⟩ := hrel
    go_wp2
    go_ret
    rw [cA, ← hy.out, BitVec.not_not]
    exact ⟨rfl, rfl⟩
theorem crc_nil (x : BitVec 32) : crc x [] = x := by simp [crc]
theorem more_c (x : BitVec 32) (v : Value) (l : List UInt8) (w : World) (B : Nat) (h : Sl w B v l) :
    Calls Try.prog 12 #[u32 x, v] w fun e w' => e = .returned (u32 (crc x l)) ∧ w = w' := by
  obtain ⟨hl, a, cap, rfl, _, _, _, rfl | ⟨b, off, rfl, _, hc⟩⟩ := h
  · rw [crc_nil]; exact more_none x a cap w
  · exact more_any x b off cap l w (by omega) hc
theorem sum_c (v : Value) (l : List UInt8) (w : World) (B : Nat) (h : Sl w B v l) :
    Calls Try.prog 10 #[v] w fun e w' => e = .returned (u32 (crc 0#32 l)) ∧ w = w' := by
  go_enter Try.func10, Try.ntmps10
  go_wp2_with (go_at_call 12; refine (more_c 0#32 v l w B h).mono ?_; rintro e w' ⟨rfl, rfl⟩)
  go_ret
  exact ⟨rfl, rfl⟩

/-! ### the reference's sum, Short, begun -/
theorem cstep_odd (z : BitVec 32) (h : (z.toNat : Int) % 2 = 1) : bits .xor .u32 ((z.toNat : Int) / 2) 3988292384 = ((cstep z).toNat : Int) := by
  have h4 : (z.toNat : Int) / (2 : Int) = ((z >>> 1).toNat : Int) := by
    rw [BitVec.toNat_ushiftRight, Nat.shiftRight_eq_div_pow]
    omega
  have h1 : z &&& 1#32 = 1#32 := by
    apply BitVec.eq_of_toNat_eq
    rw [BitVec.toNat_and]
    show z.toNat &&& 1 = 1
    rw [Nat.and_one_is_mod]; omega
  rw [h4]
  have := cxor (z >>> 1) 0xedb88320#32
  refine this.trans ?_
  unfold cstep
  rw [h1]
  rfl
theorem cstep_even (z : BitVec 32) (h : (z.toNat : Int) % 2 ≠ 1) : (z.toNat : Int) / 2 = ((cstep z).toNat : Int) := by
  have h4 : (z.toNat : Int) / (2 : Int) = ((z >>> 1).toNat : Int) := by
    rw [BitVec.toNat_ushiftRight, Nat.shiftRight_eq_div_pow]
    omega
  have h1 : z &&& 1#32 = 0#32 := by
    apply BitVec.eq_of_toNat_eq
    rw [BitVec.toNat_and]
    show z.toNat &&& 1 = 0
    rw [Nat.and_one_is_mod]; omega
  rw [h4]
  unfold cstep
  rw [h1]
  have : (z >>> 1) ^^^ (3988292384#32 &&& -0#32) = z >>> 1 := by
    rw [show (-0#32 : BitVec 32) = 0#32 from rfl, BitVec.and_zero, BitVec.xor_zero]
  rw [this]

set_option maxHeartbeats 400000 in
theorem ref_any (b off cap : Nat) (l : List UInt8) (w : World) (hl : l.length ≤ 9223372036854775807)
   (hc : ∀ i (h : i < l.length), w.cell? ⟨b, off + i, none⟩ = some (.int .u8 l[i].toNat)) :
    Calls Try.prog 11 #[.slice (some ⟨b, off, none⟩) l.length cap] w fun e w' => e = .returned (u32 (crc 0#32 l)) ∧ w = w' := by
  go_enter Try.func11, Try.ntmps11
  go_wp2
  go_loop [3, 4, 5] (fun s i _ => ∃ k : Nat, k ≤ l.length ∧ i = .int .i64 k ∧ s = u32 ((l.take k).foldl cbyte (~~~ 0#32))) (fun _ i _ => l.length - (intOf i).toNat)
  case atStart => exact ⟨0, by omega, rfl, rfl⟩
  case round =>
    obtain ⟨k, hk, rfl, rfl⟩ := hrel
    by_cases hlt : k < l.length
    · have hcell := hc k hlt
      have hnext : Hid ((l.take (k+1)).foldl cbyte (~~~ 0#32) = cbyte ((l.take k).foldl cbyte (~~~ 0#32)) l[k]) := by
        show _ = _
        rw [List.take_succ_eq_append_getElem hlt, List.foldl_append]; rfl
      clear hc
      generalize l[k] = c at *
      generalize ((l.take k).foldl cbyte (~~~ 0#32)) = y at *
      go_wp2
      go_loop [3, 5] (fun s i => ∃ k : Nat, k ≤ 8 ∧ i = .int .i64 k ∧ s = u32 (csteps k (y ^^^ BitVec.ofNat 32 c.toNat))) (fun _ i => 8 - (intOf i).toNat)
      case atStart => exact ⟨0, by omega, rfl, by rw [cB]; rfl⟩
      case round =>
        obtain ⟨j, hj, rfl, rfl⟩ := hrel
        have hs : Hid (csteps (j+1) (y ^^^ BitVec.ofNat 32 c.toNat) = cstep (csteps j (y ^^^ BitVec.ofNat 32 c.toNat))) := rfl
        generalize hz : csteps j (y ^^^ BitVec.ofNat 32 c.toNat) = z at *
        replace hz := Lib.hid hz
        go_wp2
        · have ho : (z.toNat : Int) % 2 = 1 := by simpa using ‹(((z.toNat : Int) % 2 == 1) = true)›
          go_round
          case rel => exact ⟨j + 1, by omega, by go_num, by rw [hs.out, cstep_odd z ho]⟩
          case measure => simp [intOf]; omega
        · have ho : (z.toNat : Int) % 2 ≠ 1 := by simpa using ‹(((z.toNat : Int) % 2 == 1) = false)›
          go_round
          case rel => exact ⟨j + 1, by omega, by go_num, by rw [hs.out, cstep_even z ho]⟩
          case measure => simp [intOf]; omega
        · go_round
          case rel =>
            have e : j = 8 := by omega
            subst e
            exact ⟨k + 1, by omega, by go_num, by rw [hnext.out, ← hz.out]; rfl⟩
          case measure => simp [intOf]; omega
    · go_wp2
      go_ret
      have e : k = l.length := by omega
      subst e
      rw [cA, List.take_length]
      exact ⟨rfl, rfl⟩

theorem ref_none (a : Option Addr) (cap : Nat) (w : World) :
    Calls Try.prog 11 #[.slice a 0 cap] w fun e w' => e = .returned (u32 0#32) ∧ w = w' := by
  go_enter Try.func11, Try.ntmps11
  go_wp2
  go_loop [3, 4, 5] (fun s i _ => i = .int .i64 0 ∧ s = .int .u32 4294967295) (fun _ i _ => 0)
  case atStart => exact ⟨rfl, rfl⟩
  case round =>
    obtain ⟨rfl, rfl⟩ := hrel
    go_wp2
    go_ret
    exact ⟨rfl, rfl⟩
theorem ref_c (v : Value) (l : List UInt8) (w : World) (B : Nat) (h : Sl w B v l) :
    Calls Try.prog 11 #[v] w fun e w' => e = .returned (u32 (crc 0#32 l)) ∧ w = w' := by
  obtain ⟨hl, a, cap, rfl, _, _, _, rfl | ⟨b, off, rfl, _, hc⟩⟩ := h
  · rw [crc_nil]; exact ref_none a cap w
  · exact ref_any b off cap l w (by omega) hc
theorem short_c (v : Value) (l : List UInt8) (n : Nat) (w : World) (B : Nat) (h : Sl w B v l) (hn : n ≤ 1000) :
    Calls Try.prog 9 #[v, .int .i64 n] w fun e w' => (∃ v', e = .returned v' ∧ Sl w B v' (l.take n)) ∧ w = w' := by
  obtain ⟨hl, a, cap, rfl, h1, h2, hN, h3⟩ := h
  have HN := Lib.hid hN
  clear hN
  unfold maxLen at h2
  by_cases hlt : n < l.length
  · go_enter Try.func9, Try.ntmps9
    go_wp2
    go_ret
    refine ⟨⟨_, rfl, ?_⟩, rfl⟩
    have e : (l.take n).length = n := by rw [List.length_take]; omega
    refine ⟨by omega, a, cap, by rw [e]; rfl, by omega, h2, HN.out, ?_⟩
    rcases h3 with rfl | ⟨b, off, e1, hb, hc⟩
    · exact .inl (by simp)
    · exact .inr ⟨b, off, e1, hb, fun i hi => by rw [hc i (by omega)]; simp⟩
  · go_enter Try.func9, Try.ntmps9
    go_wp2
    go_ret
    refine ⟨⟨_, rfl, ?_⟩, rfl⟩
    rw [List.take_of_length_le (by omega)]
    exact ⟨hl, a, cap, rfl, h1, h2, HN.out, h3⟩
theorem crc_digits : crc 0#32 [49, 50, 51, 52, 53, 54, 55, 56, 57] = 3421780262#32 := by decide +kernel
def digits : List UInt8 := [49, 50, 51, 52, 53, 54, 55, 56, 57]
theorem begun_c (w : World) : 
    Calls Try.prog 8 #[] w fun e w' => e = .returned (.bool true) ∧ Below w.heap.size w w' := by
  have kc := fun (w : World) (C : Array Value) (n c : Nat) => Lib.run_convert_bytes_const (P := Try.prog) w 24 5 C n c Try.underlying24 Try.underlying5
  go_enter Try.func8, Try.ntmps8
  go_wp2_with (fail)
  refine (sum_c _ digits _ (w.heap.size + 1) ?_).mono ?_
  · exact Sl.new w digits 5 _ 9 (by decide) (by decide) (by decide)
  rintro e w' ⟨rfl, rfl⟩
  rw [show crc 0#32 digits = 3421780262#32 from crc_digits]
  go_wp2_with (fail)
  refine (sum_c _ [] _ 0 (Sl.nil _ _)).mono ?_
  rintro e w' ⟨rfl, rfl⟩
  rw [crc_nil]
  go_wp2_with (fail)
  go_ret
  exact ⟨rfl, (Below.refl _ _).alloc (Nat.le_refl _) _⟩

theorem wpList_app {P : Program} {w : World} {ops : Array Oper} {rest : List Oper} {o : Oper} {a : Act} {Q : Exit → Act → World → Prop} (s x : Operand) (t : TypeId)
    (hgd : o.guard = none) (ho : o.op = .call { callee := .builtin .append, args := #[s, x], argTypes := #[t, t] })
    (base : Nat) (e : TypeId) (i : TypeInfo) (z : Value) (bytes : Nat) (ht : P.underlying t = some (.slice e)) (hi : P.info? e = some i) (hz : i.zero = some z)
    (hsize : i.size = 1) (hby : i.bytes = bytes) (hzs : z.cells.size = 1)
    (v : Value) (n : Nat) (xs : List Value) (hs : a.eval s = v) (hown : w.ownsRow base e 1 v n xs)
    (oa : Option Addr) (m c : Nat) (news : List Value) (hx : a.eval x = .slice oa m c) (hl : news.length = m)
    (hnews : news = [] ∧ (oa = none → c = 0) ∨ ∃ b off, oa = some ⟨b, off, none⟩ ∧ ∀ j (h : j < news.length), w.cell? ⟨b, off + j, none⟩ = some news[j]) (h1 : ∀ u ∈ news, u.oneCell' = true)
    (h63 : n + m ≤ maxLen) (hbytes : (n + m) * bytes ≤ 140737488355328) (hbase : base ≤ w.heap.size)
    (h : ∀ v' w', w'.ownsRow base e 1 v' (n + m) (xs ++ news) → w.grownBy w' v.ownBlock → wpList P ops Q rest (a.put o.dst v') w') : wpList P ops Q (o :: rest) a w := by
  subst hl
  rcases oa with _ | ad
  · rcases hnews with ⟨rfl, hc⟩ | ⟨b, off, e, _⟩
    · have hc := hc rfl
      subst hc
      refine wpList_append_own_none hgd s x t ho base e i 1 ht hi v n xs hs hown hx ?_
      simpa using h v w (by simpa using hown) ⟨rfl, rfl, rfl, Nat.le_refl _, fun _ _ _ => rfl⟩
    · cases e
  · refine wpList_append_own w hgd s x t ho base e i z 1 bytes ht hi hz hsize hby hzs (by decide) v n xs hs hown ad news.length c news hx (by simp) ?_ h1 h63 hbytes hbase (fun v' w' a1 a2 _ => h v' w' a1 a2)
    intro j u hj
    obtain ⟨hj1, rfl⟩ := List.getElem?_eq_some_iff.1 hj
    rcases hnews with ⟨rfl, _⟩ | ⟨b, off, e, hc⟩
    · simp at hj1
    · cases e
      rw [← hc j hj1]
      unfold Addr.add
      split
      · next h0 => subst h0; rfl
      · rfl
theorem Sl.news {w : World} {B : Nat} {v : Value} {l : List UInt8} (h : Sl w B v l) : ∃ oa c, v = .slice oa l.length c ∧ ((bv l = [] ∧ (oa = none → c = 0)) ∨ ∃ b off, oa = some ⟨b, off, none⟩ ∧ ∀ j (h : j < (bv l).length), w.cell? ⟨b, off + j, none⟩ = some (bv l)[j]) := by
  obtain ⟨hl, oa, c, rfl, h1, h2, hN, h3⟩ := h
  refine ⟨oa, c, rfl, ?_⟩
  rcases h3 with rfl | ⟨b, off, rfl, _, hc⟩
  · exact .inl ⟨rfl, hN⟩
  · exact .inr ⟨b, off, rfl, fun j hj => by rw [hc j (by simpa [bv] using hj)]; simp [bv]⟩
theorem Sl.grown {w w' : World} {B B' : Nat} {v : Value} {l : List UInt8} {row : Option Nat} (h : Sl w B v l) (g : w.grownBy w' row) (hB : B ≤ w.heap.size) (hr : ∀ k, row = some k → B ≤ k) (hB' : B ≤ B') : Sl w' B' v l :=
  h.keep hB' fun b o hb => World.cell?_of_block (g.block b (by omega) (fun e => by have := hr _ e.symm; omega))
theorem Sl.own {w : World} {base : Nat} {e : TypeId} {v : Value} {n : Nat} {l : List UInt8} (h : w.ownsRow base e 1 v n (bv l)) (hl : l.length ≤ 9223372036854775807) : Sl w w.heap.size v l := by
  obtain ⟨h1, h2⟩ := h
  have e1 : n = l.length := by simpa [bv] using h1.symm
  subst e1
  rcases h2 with ⟨rfl, h0⟩ | ⟨g, cap, cur, rfl, hg, hh, hn, hc, hs, ht⟩
  · have : l = [] := List.eq_nil_of_length_eq_zero h0
    subst this
    exact Sl.nil _ _
  · have hlt : g < w.heap.size := by
      rcases Nat.lt_or_ge g w.heap.size with hlt | hge
      · exact hlt
      · rw [Array.getElem?_eq_none hge] at hh; cases hh
    refine ⟨hl, _, cap, rfl, hn, hc, by simp, .inr ⟨g, 0, rfl, hlt, fun i hi => ?_⟩⟩
    have e2 : cur[i]? = (bv l)[i]? := by
      rw [← ht, List.getElem?_take, if_pos (by omega), Array.getElem?_toList]
    simp only [World.cell?, hh, Nat.zero_add]
    simp only [Option.isSome_none, Bool.false_eq_true, if_false, e2]
    simp [bv, hi]
theorem bv_one (l : List UInt8) : ∀ u ∈ bv l, u.oneCell' = true := by
  intro u hu
  simp only [bv, List.mem_map] at hu
  obtain ⟨c, _, rfl⟩ := hu
  rfl
theorem bv_append (a b : List UInt8) : bv a ++ bv b = bv (a ++ b) := by simp [bv]
theorem bv_length (a : List UInt8) : (bv a).length = a.length := by simp [bv]

/-- What an argument that is a slice of integers reads as. -/
def IsRow (k : IntKind) (w : World) (a : Option Addr) (len cap : Nat) (zs : List Int) : Prop :=
  (a = none ∧ len = 0 ∧ cap = 0 ∧ zs = []) ∨
  ∃ x, a = some x ∧ len ≤ cap ∧ cap ≤ maxLen ∧ zs.length = cap ∧ (∀ i, i < zs.length → w.cell? (x.add i) = some (.int k (zs.getD i 0))) ∧ ∀ n ∈ zs, (Lit.int k n).wf = true
theorem lt_of_cell {w : World} {a : Addr} {v : Value} (h : w.cell? a = some v) : a.block < w.heap.size := by
  rcases Nat.lt_or_ge a.block w.heap.size with hlt | hge
  · exact hlt
  · simp [World.cell?, Array.getElem?_eq_none hge] at h
theorem Sl.of_row {w : World} {a : Option Addr} {len cap : Nat} {zs : List Int} (h : IsRow .u8 w a len cap zs) : ∃ l, Sl w w.heap.size (.slice a len cap) l := by
  rcases h with ⟨rfl, rfl, rfl, rfl⟩ | ⟨x, rfl, h1, h2, rfl, hc, hw⟩
  · exact ⟨[], Sl.nil _ _⟩
  · have e : ((zs.take len).map fun z => UInt8.ofNat z.toNat).length = len := by simp; omega
    refine ⟨(zs.take len).map fun z => UInt8.ofNat z.toNat, by unfold maxLen at h2; omega, some x, zs.length, by rw [e], by omega, h2, by simp, ?_⟩
    rcases Nat.eq_zero_or_pos len with h0 | h0
    · subst h0; exact .inl (by simp)
    · have c0 := hc 0 (by omega)
      have hb := lt_of_cell c0
      obtain ⟨b, off, spot⟩ := x
      have hsp : spot = none := by simpa [Addr.add] using World.cell?_spot c0
      subst hsp
      refine .inr ⟨b, off, rfl, by simpa [Addr.add] using hb, fun i hi => ?_⟩
      have ci := hc i (by omega)
      have e2 : (Addr.add ⟨b, off, none⟩ i) = ⟨b, off + i, none⟩ := by
        unfold Addr.add
        split
        · next h0 => subst h0; rfl
        · rfl
      rw [e2] at ci
      rw [ci]
      have hi2 : i < zs.length := by omega
      have hwi := hw zs[i] (List.getElem_mem hi2)
      have hb2 := bounds_u8 hwi
      simp [hi2]
      omega
end Go.Proofs.Ytapanemkpcnkaaa
