import Derived.Test.YtbkjiinnojnkhaaY3
namespace Go.Proofs.Ytbkjiinnojnkhaa
open Go.RowKit
theorem mod20 (x : Int) : ∃ y : Int, x.tmod 20 = y ∧ -20 < y ∧ y < 20 := by
  have h1 := Int.tmod_lt_of_pos x (show (0 : Int) < 20 by omega)
  have h2 : -20 < x.tmod 20 := by
    have := Int.lt_tmod_of_pos x (show (0 : Int) < 20 by omega)
    exact this
  exact ⟨_, rfl, h2, h1⟩
/-- What holds of the places, and of the place that is wanted. -/
def Firsts (n : Nat) (f : Nat → Bool) (a : Nat) : Option Nat → Prop
  | none => (∀ t, a ≤ t → f t = true) ∧ ∀ j, j < a → ∃ t, j ≤ t ∧ t < j + n ∧ f t = false
  | some v => (∀ t, a ≤ t → f t = true) ∧ v + n ≤ a ∧ (∀ t, v ≤ t → t < v + n → f t = true) ∧ ∀ j, j < v → ∃ t, j ≤ t ∧ t < j + n ∧ f t = false
def wantOf : Option Nat → Int
  | none => -1
  | some v => (v : Int)
def hole (f : Nat → Bool) (q : Nat) : Nat → Bool := fun i => if q ≤ i ∧ i < q + 1 then false else f i
theorem hole_ne (f : Nat → Bool) (q i : Nat) (h : i ≠ q) : hole f q i = f i := by
  unfold hole; rw [if_neg (by omega)]
theorem hole_at (f : Nat → Bool) (q : Nat) : hole f q q = false := by
  unfold hole; rw [if_pos (by omega)]
theorem firsts_hole {f : Nat → Bool} {q j n : Nat} (h : ∃ t, j ≤ t ∧ t < j + n ∧ f t = false) : ∃ t, j ≤ t ∧ t < j + n ∧ hole f q t = false := by
  obtain ⟨t, h1, h2, h3⟩ := h
  refine ⟨t, h1, h2, ?_⟩
  by_cases e : t = q
  · rw [e, hole_at]
  · rw [hole_ne _ _ _ e, h3]
theorem firsts_found {n : Nat} {f : Nat → Bool} {a k : Nat} (h : Firsts n f a none) (hk : n ≤ k) : Firsts n (hole f (a + k)) (a + k + 1) (some a) :=
  ⟨fun t ht => by rw [hole_ne _ _ _ (by omega)]; exact h.1 t (by omega), by omega, fun t h1 h2 => by rw [hole_ne _ _ _ (by omega)]; exact h.1 t h1, fun j hj => firsts_hole (h.2 j hj)⟩
theorem firsts_short {n : Nat} {f : Nat → Bool} {a k : Nat} (h : Firsts n f a none) (hk : k < n) : Firsts n (hole f (a + k)) (a + k + 1) none :=
  ⟨fun t ht => by rw [hole_ne _ _ _ (by omega)]; exact h.1 t (by omega), fun j hj => by
    by_cases h1 : j < a
    · exact firsts_hole (h.2 j h1)
    · exact ⟨a + k, by omega, by omega, hole_at _ _⟩⟩
theorem firsts_go {n : Nat} {f : Nat → Bool} {a k v : Nat} (h : Firsts n f a (some v)) : Firsts n (hole f (a + k)) (a + k + 1) (some v) := by
  obtain ⟨h0, h1, h2, h3⟩ := h
  exact ⟨fun t ht => by rw [hole_ne _ _ _ (by omega)]; exact h0 t (by omega), by omega, fun t t1 t2 => by rw [hole_ne _ _ _ (by omega)]; exact h2 t t1 t2, fun j hj => firsts_hole (h3 j hj)⟩
theorem firsts_all {n : Nat} {f : Nat → Bool} {a : Nat} {o : Option Nat} (h : Firsts n f a o) : ∀ t, a ≤ t → f t = true := by
  cases o with
  | none => exact h.1
  | some v => exact h.1
theorem firsts_use {n : Nat} {f : Nat → Bool} {a k N : Nat} {o : Option Nat} (h : Firsts n f a o) (hk : a + k < N) :
    isAll 0 (rg N f) ((a : Int) + (k : Int)) 1 true = true ∧ setTo 0 (rg N f) ((a : Int) + (k : Int)) 1 false = rg N (hole f (a + k)) := by
  have hw : ∀ t, t < 1 → (rg N f)[a + k + t]? = some true := fun t ht => by
    rw [rg_get, if_pos (by omega), firsts_all h _ (by omega)]
  have e : (a : Int) + (k : Int) = 0 + ((a + k : Nat) : Int) := by omega
  constructor
  · have := isAll_at 0 (rg N f) (a + k) 1 true (by omega) hw
    rw [← e] at this
    exact this
  · have := setTo_at 0 (rg N f) (a + k) 1 false (by omega) hw
    rw [← e] at this
    rw [show ((1 : Nat) : Int) = 1 from rfl] at this
    rw [this, rg_fill _ _ _ _ _ (by omega)]
    rfl
theorem firsts_take {n : Nat} {f : Nat → Bool} {N v : Nat} (hn : 1 ≤ n) (hv : v + n ≤ N) (h1 : ∀ t, v ≤ t → t < v + n → f t = true) (h2 : ∀ j, j < v → ∃ t, j ≤ t ∧ t < j + n ∧ f t = false) :
    ∃ s, taken 0 (rg N f) (n : Int) = some s ∧ s.1 = (v : Int) := by
  obtain ⟨s, h3, h4⟩ := taken_eq 0 (rg N f) n v hn ((rg_win N f v n hn).2 ⟨hv, h1⟩) (fun j hj hw => by
    obtain ⟨t, t1, t2, t3⟩ := h2 j hj
    have := ((rg_win N f j n hn).1 hw).2 t t1 t2
    rw [t3] at this
    cases this)
  exact ⟨s, h3, by omega⟩
set_option maxHeartbeats 4000000 in
theorem extentFirst_walk (w : World) {v : Value} {lw : List Int} {y : Int} (hv : Si w w.heap.size v lw) (hy : (Lit.int .i64 y).wf = true) :
    Calls Try.prog 5 #[v, .int .i64 y] w fun e w' => e = .returned (.bool true) ∧ Below w.heap.size w w' := by
  have hy' := bounds_i64 hy
  clear hy
  obtain ⟨va, vc, rfl, hvl⟩ := hv.1.form
  have HSI := Lib.hid hv
  clear hv
  go_enter Try.func5, Try.ntmps5
  go_wp2_with (fail)
  refine (begun_c w).mono ?_
  rintro e w1 ⟨rfl, bel⟩
  have B1 := Lib.hid bel
  have z1 := bel.size
  clear bel
  by_cases c3 : y < 1
  · go_wp2_with (fail)
    go_ret
    exact ⟨rfl, B1.out⟩
  by_cases c4 : 20 < y
  · go_wp2_with (fail)
    go_ret
    exact ⟨rfl, B1.out⟩
  obtain ⟨n, rfl⟩ := Int.eq_ofNat_of_zero_le (by omega : 0 ≤ y)
  have d3 : decide ((n : Int) < 1) = false := by simp; omega
  have d4 : decide (20 < (n : Int)) = false := by simp; omega
  have hn : 1 ≤ n ∧ n ≤ 20 := by omega
  clear c3 c4 hy'
  go_wp2_with (fail)
  refine (new_c w1 0 400 (by omega) (by omega) (by omega) (by omega)).mono ?_
  rintro e w2 ⟨⟨p, q, rfl, hp, hq, hr⟩, bel⟩
  rw [show Int.toNat 400 = 400 from rfl, rg_true] at hr
  have R2 := Lib.hid hr
  have B2 := Lib.hid (B1.out.trans (bel.mono z1))
  have z2 := bel.size
  clear hr bel d3 d4
  go_wp2_with (fail)
  go_loopg [7, 8, 9, 10] lw.length (fun qq ai wi i _ wr => ∃ (k a : Nat) (f : Nat → Bool) (o : Option Nat), k + qq = lw.length ∧ (k ≤ 12 ∧ a ≤ 21 * k) ∧ i = .int .i64 (k : Int) ∧ ai = .int .i64 (a : Int) ∧ wi = .int .i64 (wantOf o) ∧ Firsts n f a o ∧ RoomAt wr p q 400 [] 0 (rg 400 f) ∧ Below w.heap.size w wr)
  case atStart => exact ⟨0, 0, fun _ => true, none, by omega, by omega, rfl, rfl, rfl, ⟨fun _ _ => rfl, fun j hj => by omega⟩, R2.out, B2.out⟩
  case round =>
    obtain ⟨k, a, f, o, hk, hka, rfl, rfl, rfl, hf, hr, bel⟩ := hrel
    have hqw : w.heap.size ≤ q := by omega
    by_cases hlt : k < lw.length ∧ k < 12
    · obtain ⟨hlt, h12⟩ := hlt
      obtain ⟨wb, wo, rfl, hwb, hwc⟩ := HSI.out.1.at_ (by rw [iv_len]; omega)
      have kc := hwc k (by rw [iv_len]; exact hlt)
      rw [← bel.cell (p := ⟨wb, wo + k, none⟩) hwb] at kc
      have e : (iv lw)[k]'(by rw [iv_len]; exact hlt) = .int .i64 lw[k] := by simp [iv]
      rw [e] at kc
      obtain ⟨z, hz, hz1, hz2⟩ := mod20 lw[k]
      generalize lw[k] = x at *
      have i4 : (k : Int) < (lw.length : Int) := by omega
      have i5 : (k : Int) < 12 := by omega
      obtain ⟨m, hm, hm1⟩ : ∃ m : Nat, 1 + z % 20 = (m : Int) ∧ (1 ≤ m ∧ m ≤ 20) := ⟨(1 + z % 20).toNat, by omega, by omega⟩
      have hu := firsts_use (N := 400) (k := m) hf (by omega)
      have HU1 := Lib.hid hu.1
      have HU2 := Lib.hid hu.2
      have R := Lib.hid hr
      have BE := Lib.hid bel
      have HF := Lib.hid hf
      clear hwc e hu hr bel hf
      cases o with
      | some vv =>
        have d6 : decide ((vv : Int) < 0) = false := by simp
        change Hid (Firsts n f a (some vv)) at HF
        unfold wantOf
        go_wp2_with (fail)
        refine (use_c wr p q 400 [] 0 (rg 400 f) R.out _ 1 (by omega) (by omega)).mono ?_
        rintro e w4 ⟨rfl, hr, fr⟩
        rw [HU2.out] at hr
        rw [HU1.out]
        have R4 := Lib.hid hr
        have B4 := Lib.hid (BE.out.trans (fr.below (B := w.heap.size) BE.out.size (by simpa using hqw)))
        clear hr fr
        go_wp2_with (fail)
        go_roundg (lw.length - (k + 1))
        case measure => omega
        case rel => exact ⟨k + 1, a + m + 1, _, some vv, by omega, by omega, by go_num, by go_num, rfl, firsts_go HF.out, R4.out, B4.out⟩
      | none =>
        by_cases h7 : n ≤ m
        · have d7 : decide ((n : Int) ≤ (m : Int)) = true := by simpa using h7
          unfold wantOf
          go_wp2_with (fail)
          refine (use_c wr p q 400 [] 0 (rg 400 f) R.out _ 1 (by omega) (by omega)).mono ?_
          rintro e w4 ⟨rfl, hr, fr⟩
          rw [HU2.out] at hr
          rw [HU1.out]
          have R4 := Lib.hid hr
          have B4 := Lib.hid (BE.out.trans (fr.below (B := w.heap.size) BE.out.size (by simpa using hqw)))
          clear hr fr
          go_wp2_with (fail)
          go_roundg (lw.length - (k + 1))
          case measure => omega
          case rel => exact ⟨k + 1, a + m + 1, _, some a, by omega, by omega, by go_num, by go_num, rfl, firsts_found HF.out h7, R4.out, B4.out⟩
        · have d7 : decide ((n : Int) ≤ (m : Int)) = false := by simpa using h7
          unfold wantOf
          go_wp2_with (fail)
          refine (use_c wr p q 400 [] 0 (rg 400 f) R.out _ 1 (by omega) (by omega)).mono ?_
          rintro e w4 ⟨rfl, hr, fr⟩
          rw [HU2.out] at hr
          rw [HU1.out]
          have R4 := Lib.hid hr
          have B4 := Lib.hid (BE.out.trans (fr.below (B := w.heap.size) BE.out.size (by simpa using hqw)))
          clear hr fr
          go_wp2_with (fail)
          go_roundg (lw.length - (k + 1))
          case measure => omega
          case rel => exact ⟨k + 1, a + m + 1, _, none, by omega, by omega, by go_num, by go_num, rfl, firsts_short HF.out (by omega), R4.out, B4.out⟩
    · have R := Lib.hid hr
      have BE := Lib.hid bel
      clear hr bel
      have hend : (k : Int) < (lw.length : Int) → ¬ ((k : Int) < 12) := by omega
      have fin : ∃ s, taken 0 (rg 400 f) (n : Int) = some s ∧ s.1 = ((o.getD a : Nat) : Int) := by
        cases o with
        | none => exact firsts_take (v := a) (by omega) (by omega) (fun t h1 _ => hf.1 t h1) hf.2
        | some x => exact firsts_take (v := x) (by omega) (by have := hf.2.1; omega) hf.2.2.1 hf.2.2.2
      obtain ⟨s, ht, hs⟩ := fin
      have HT := Lib.hid ht
      have HS := Lib.hid hs
      clear ht hs hf
      cases o with
      | none =>
        change Hid (s.1 = (a : Int)) at HS
        unfold wantOf
        rcases Nat.lt_or_ge k lw.length with h1 | h1
        all_goals
          have h2 : (k : Int) < (lw.length : Int) ∨ (lw.length : Int) ≤ (k : Int) := by omega
          go_wp2_with (fail)
          refine (take_c wr p q 400 [] 0 (rg 400 f) R.out (n : Int) (by omega)).mono ?_
          intro e w3 hpost
          obtain ⟨rfl, hr, fr⟩ := take_some hpost HT.out
          rw [HS.out]
          have ba := Lib.hid ((BE.out.trans (fr.below (B := w.heap.size) BE.out.size (by simpa using hqw))).alloc (by have := BE.out.size; have := fr.size; omega) (.cells #[.int .i64 (a : Int), .int .i64 (n : Int)] 30))
          clear hr fr hpost
          go_wp2_with (fail)
          go_ret
          exact ⟨rfl, ba.out⟩
      | some vv =>
        change Hid (s.1 = (vv : Int)) at HS
        unfold wantOf
        have d6 : decide ((vv : Int) < 0) = false := by simp
        rcases Nat.lt_or_ge k lw.length with h1 | h1
        all_goals
          go_wp2_with (fail)
          refine (take_c wr p q 400 [] 0 (rg 400 f) R.out (n : Int) (by omega)).mono ?_
          intro e w3 hpost
          obtain ⟨rfl, hr, fr⟩ := take_some hpost HT.out
          rw [HS.out]
          have ba := Lib.hid ((BE.out.trans (fr.below (B := w.heap.size) BE.out.size (by simpa using hqw))).alloc (by have := BE.out.size; have := fr.size; omega) (.cells #[.int .i64 (vv : Int), .int .i64 (n : Int)] 30))
          clear hr fr hpost
          go_wp2_with (fail)
          go_ret
          exact ⟨rfl, ba.out⟩
end Go.Proofs.Ytbkjiinnojnkhaa
