import Derived.Test.YtbkjiinnojnkhaaX3
namespace Go.Proofs.Ytbkjiinnojnkhaa
open Go.RowKit
theorem Below.drewN {B : Nat} {a w : World} (h : Below B a w) (n : Nat) : Below B a (w.drewN n) := ⟨h.os, h.tape, h.output, h.size, h.block⟩
theorem quiet_same2 {P : Program} {f : FuncId} {args : Array Value} {w : World} {a n : Nat} {v : Value}
    (h : Calls P f args (w.drewN (a + n)) fun e w' => e = .returned v ∧ w.drewN (a + n) = w') : Calls P f args (w.drewN (a + n)) fun e w'' => e = .returned v ∧ ∃ m, w'' = w.drewN (a + m) :=
  h.mono fun _ _ ⟨he, hm⟩ => ⟨he, n, hm.symm⟩
/-- Are all sectors of a row the room's, and free, or not? -/
def isAll (at_ : Int) (free : List Bool) (x n : Int) (c : Bool) : Bool :=
  decide (1 ≤ n ∧ at_ ≤ x ∧ x - at_ + n ≤ (free.length : Int)) && !((free.drop (x - at_).toNat).take n.toNat).contains (!c)
theorem RoomR.keep {w w' : World} {p : Nat} {v : Value} {at_ : Int} {free : List Bool} (h : RoomR w p v at_ free) (hb : Below w.heap.size w w') : RoomR w' p v at_ free :=
  ⟨h.head.below hb h.head.lt, h.row.below hb.size hb (Nat.le_refl _), h.lo, h.hi, h.len⟩
theorem Sb.part {w : World} {B : Nat} {a : Option Addr} {n cap : Nat} {l : List Bool} (h : Sb w B (.slice a n cap) l) (k m : Nat) (hm : 0 < m) (hk : k + m ≤ l.length) :
    ∃ v, (∀ W, (Instr.slice 26 (.slice a n cap) (some (.int .i64 (k : Int))) (some (.int .i64 ((k : Int) + (m : Int)))) none).run Try.prog W = .ok v W) ∧ Sb w B v ((l.drop k).take m) := by
  obtain ⟨i0, hi, hz0, hz1, hz2⟩ := info_parts info4
  obtain ⟨hl, hx, a', cap', e, h1, h2, h3, h4⟩ := h
  injection e with e1 e2 e3
  subst e1 e2 e3
  rcases h4 with h4 | ⟨b, off, rfl, hb, hc⟩
  · have : l.length = 0 := by rw [← tv_len, h4]; rfl
    omega
  have e5 : ((l.drop k).take m).length = m := by simp; omega
  refine ⟨.slice (some ⟨b, off + k, none⟩) m (cap - k), fun W => ?_, by rw [e5, tv_len, e5]; omega, by omega, _, _, by rw [e5], by omega, by omega, by simp, .inr ⟨b, off + k, rfl, hb, fun i hi2 => ?_⟩⟩
  · rw [run_slice_lh W 26 _ _ cap und26 .i64 .i64 k (k + m : Int) (by omega) (by omega) (by omega), elem26]
    simp only [sizeOf, typeInfo, Sem.run_bind, Sem.run_pure]
    simp [hi, hz1, sliced, Result.andThen]
    refine ⟨?_, by omega⟩
    rw [add_at]
    split
    · have : k = 0 := by omega
      subst this; rfl
    · rfl
  · rw [tv_len, e5] at hi2
    have := hc (k + i) (by rw [tv_len]; omega)
    rw [Nat.add_assoc, this]
    simp [tv]
theorem sub_in {a b : Int} (h : -9223372036854775808 ≤ a - b ∧ a - b ≤ 9223372036854775807) : IntKind.i64.wrap (a - b) = a - b := IntWalk.i64_in _ h
theorem add_in {a b : Int} (h : -9223372036854775808 ≤ a + b ∧ a + b ≤ 9223372036854775807) : IntKind.i64.wrap (a + b) = a + b := IntWalk.i64_in _ h
set_option maxHeartbeats 1000000 in
theorem all_c (w : World) (p : Nat) (v : Value) (at_ : Int) (free : List Bool) (h : RoomR w p v at_ free) (x n : Int) (hx : -9223372036854775808 ≤ x ∧ x ≤ 9223372036854775807) (hn : -9223372036854775808 ≤ n ∧ n ≤ 9223372036854775807) (c : Bool) :
    Calls Try.prog 22 #[.pointer (some ⟨p, 0, none⟩), .agg #[.int .i64 x, .int .i64 n], .bool c] w fun e w' => e = .returned (.bool (isAll at_ free x n c)) ∧ Below w.heap.size w w' := by
  obtain ⟨a, cap, rfl, _⟩ := h.row.form
  have hb0 : Below w.heap.size w (w.alloc (.cells #[.int .i64 x, .int .i64 n] 30)) := (Below.refl _ _).alloc (Nat.le_refl _) _
  have h1 := h.keep hb0
  have hs : Bl (w.alloc (.cells #[.int .i64 x, .int .i64 n] 30)) w.heap.size 30 [.int .i64 x, .int .i64 n] := Bl.new _ _ _
  have hlen := h.len
  have hlo := h.lo
  have hhi := h.hi
  clear h
  have HB0 := Lib.hid hb0
  clear hb0
  go_enter Try.func22, Try.ntmps22
  go_upto_region 1 with (fail)
  generalize w.alloc (.cells #[.int .i64 x, .int .i64 n] 30) = w1 at *
  have c0 : w1.cell? ⟨p, 0, none⟩ = some (.int .i64 at_) := h1.head.cell 0
  have c1 : w1.cell? ⟨p, 1, none⟩ = some (.slice a free.length cap) := h1.head.cell 1
  have s0 : w1.cell? ⟨w.heap.size, 0, none⟩ = some (.int .i64 x) := hs.cell 0
  have s1 : w1.cell? ⟨w.heap.size, 1, none⟩ = some (.int .i64 n) := hs.cell 1
  have H1 := Lib.hid h1
  clear h1 hs
  by_cases k1 : n < 1
  · have e : isAll at_ free x n c = false := by unfold isAll; rw [decide_eq_false (by omega)]; rfl
    have d1 : decide (n < 1) = true := by simpa using k1
    have E := Lib.hid e
    clear e
    go_quiet (fail)
    go_wp2_with (fail)
    go_ret
    exact ⟨by rw [E.out]; rfl, Below.drewN HB0.out _⟩
  have d1 : decide (n < 1) = false := by simpa using k1
  by_cases k2 : (free.length : Int) < n
  · have e : isAll at_ free x n c = false := by unfold isAll; rw [decide_eq_false (by omega)]; rfl
    have d2 : decide ((free.length : Int) < n) = true := by simpa using k2
    have E := Lib.hid e
    clear e
    go_quiet (fail)
    go_wp2_with (fail)
    go_ret
    exact ⟨by rw [E.out]; rfl, Below.drewN HB0.out _⟩
  have d2 : decide ((free.length : Int) < n) = false := by simpa using k2
  by_cases k3 : x < at_
  · have e : isAll at_ free x n c = false := by unfold isAll; rw [decide_eq_false (by omega)]; rfl
    have d3 : decide (x < at_) = true := by simpa using k3
    have E := Lib.hid e
    clear e
    go_quiet (fail)
    go_wp2_with (fail)
    go_ret
    exact ⟨by rw [E.out]; rfl, Below.drewN HB0.out _⟩
  have d3 : decide (x < at_) = false := by simpa using k3
  have w1e := sub_in (a := x) (b := at_) (by omega)
  have w2e := sub_in (a := (free.length : Int)) (b := n) (by omega)
  by_cases k4 : (free.length : Int) - n < x - at_
  · have e : isAll at_ free x n c = false := by unfold isAll; rw [decide_eq_false (by omega)]; rfl
    have d4 : decide ((free.length : Int) - n < x - at_) = true := by simpa using k4
    have E := Lib.hid e
    clear e
    go_quiet (fail)
    go_wp2_with (fail)
    go_ret
    exact ⟨by rw [E.out]; rfl, Below.drewN HB0.out _⟩
  have d4 : decide ((free.length : Int) - n < x - at_) = false := by simpa using k4
  have e : isAll at_ free x n c = !((free.drop (x - at_).toNat).take n.toNat).contains (!c) := by unfold isAll; rw [decide_eq_true (by omega)]; rfl
  have E := Lib.hid e
  clear e
  obtain ⟨m, rfl⟩ := Int.eq_ofNat_of_zero_le (by omega : 0 ≤ n)
  obtain ⟨k, hk⟩ := Int.eq_ofNat_of_zero_le (by omega : 0 ≤ x - at_)
  rw [hk, Int.toNat_natCast, Int.toNat_natCast] at E
  have hpart := H1.out.row.part k m (by omega) (by omega)
  obtain ⟨v2, r2, hv2⟩ := hpart
  have w3e := add_in (a := (k : Int)) (b := (m : Int)) (by omega)
  have hcon := fun q => contains_c (w1.drewN q) v2 _ (!c) (hv2.drewN q)
  have HCON := Lib.hid hcon
  clear hcon hv2
  generalize ((free.drop k).take m).contains (!c) = res at *
  rw [hk] at w1e d4
  go_quiet (fail)
  go_wp2_with (fail)
  go_quiet (fail)
  go_wp2_with (fail)
  go_quiet ((go_at_call 25; exact quiet_same2 (HCON.out _)))
  go_wp2_with (fail)
  go_ret
  exact ⟨by rw [E.out]; rfl, Below.drewN (Below.drewN (Below.drewN HB0.out _) _) _⟩
theorem all_nil (w : World) (s : Value) (hs : ∃ x n : Int, s = .agg #[.int .i64 x, .int .i64 n]) (c : Bool) :
    Calls Try.prog 22 #[.pointer none, s, .bool c] w fun e w' => e = .returned (.bool false) ∧ Below w.heap.size w w' := by
  obtain ⟨x, n, rfl⟩ := hs
  have HB0 := Lib.hid ((Below.refl w.heap.size w).alloc (Nat.le_refl _) (.cells #[.int .i64 x, .int .i64 n] 30))
  go_enter Try.func22, Try.ntmps22
  go_upto_region 1 with (fail)
  generalize w.alloc (.cells #[.int .i64 x, .int .i64 n] 30) = w1 at *
  go_quiet (fail)
  go_wp2_with (fail)
  go_ret
  exact ⟨rfl, Below.drewN HB0.out _⟩
end Go.Proofs.Ytbkjiinnojnkhaa
