import Derived.Test.YtbkjiinnojnkhaaY1
namespace Go.Proofs.Ytbkjiinnojnkhaa
open Go.RowKit
/-! ### a row of sectors by a function -/
def rg (n : Nat) (f : Nat → Bool) : List Bool := (List.range n).map f
theorem rg_len (n : Nat) (f : Nat → Bool) : (rg n f).length = n := by simp [rg]
theorem rg_get (n : Nat) (f : Nat → Bool) (i : Nat) : (rg n f)[i]? = if i < n then some (f i) else none := by
  unfold rg
  by_cases h : i < n
  · rw [if_pos h, List.getElem?_map, List.getElem?_range h]; rfl
  · rw [if_neg h, List.getElem?_eq_none (by simp; omega)]
theorem rg_ext {n : Nat} {f g : Nat → Bool} (h : ∀ i, i < n → f i = g i) : rg n f = rg n g := by
  apply List.ext_getElem?
  intro i
  rw [rg_get, rg_get]
  split
  · next hi => rw [h i hi]
  · rfl
theorem rg_true (n : Nat) : List.replicate n true = rg n fun _ => true := by
  apply List.ext_getElem?
  intro i
  rw [rg_get, List.getElem?_replicate]
theorem rg_fill (n : Nat) (f : Nat → Bool) (k m : Nat) (c : Bool) (h : k + m ≤ n) : fillAt (rg n f) k m c = rg n fun i => if k ≤ i ∧ i < k + m then c else f i := by
  apply List.ext_getElem?
  intro i
  rw [fillAt_get _ _ _ _ _ (by rw [rg_len]; omega), rg_get, rg_get]
  by_cases h1 : k ≤ i ∧ i < k + m
  · rw [if_pos h1, if_pos (by omega), if_pos h1]
  · rw [if_neg h1]
    split
    · rfl
    · rfl
theorem rg_succ (n : Nat) (f : Nat → Bool) : rg (n + 1) f = rg n f ++ [f n] := by simp [rg, List.range_succ]
theorem rg_win (n : Nat) (f : Nat → Bool) (i m : Nat) (hm : 1 ≤ m) : Win (rg n f) i m ↔ i + m ≤ n ∧ ∀ t, i ≤ t → t < i + m → f t = true := by
  unfold Win
  constructor
  · intro h
    have h1 : ∀ t, t < m → i + t < n ∧ f (i + t) = true := fun t ht => by
      have := h t ht
      rw [rg_get] at this
      split at this
      · next hi => exact ⟨hi, by simpa using this⟩
      · cases this
    refine ⟨by have := (h1 (m - 1) (by omega)).1; omega, fun t h2 h3 => ?_⟩
    have := (h1 (t - i) (by omega)).2
    rwa [show i + (t - i) = t by omega] at this
  · rintro ⟨h1, h2⟩ t ht
    rw [rg_get, if_pos (by omega), h2 _ (by omega) (by omega)]
theorem taken_eq (at_ : Int) (free : List Bool) (n i : Nat) (hn : 1 ≤ n) (hw : Win free i n) (hmin : ∀ j, j < i → ¬ Win free j n) : ∃ s, taken at_ free (n : Int) = some s ∧ s.1 = at_ + (i : Int) := by
  have h1 : i + n ≤ free.length := by
    have := hw (n - 1) (by omega)
    obtain ⟨h, _⟩ := List.getElem?_eq_some_iff.1 this
    omega
  have hf := taken_first at_ free n hn
  cases ht : taken at_ free (n : Int) with
  | none =>
    rw [ht] at hf
    exact absurd hw (hf i h1)
  | some s =>
    rw [ht] at hf
    obtain ⟨j, e, _, hj, hm⟩ := hf
    have : j = i := by
      rcases Nat.lt_trichotomy j i with h | h | h
      · exact absurd hj (hmin j h)
      · exact h
      · exact absurd hw (hm i h)
    subst this
    exact ⟨s, rfl, e⟩
theorem taken_no (at_ : Int) (free : List Bool) (n : Nat) (hn : 1 ≤ n) (h : ∀ j, ¬ Win free j n) : taken at_ free (n : Int) = none := by
  have hf := taken_first at_ free n hn
  cases ht : taken at_ free (n : Int) with
  | none => rfl
  | some s =>
    rw [ht] at hf
    obtain ⟨j, e, _, hj, _⟩ := hf
    exact absurd hj (h j)
theorem setTo_win (at_ : Int) (free : List Bool) (i n : Nat) (hn : 1 ≤ n) (hw : Win free i n) : setTo at_ free (at_ + (i : Int)) (n : Int) false = fillAt free i n false := by
  unfold setTo
  rw [show (!false) = true from rfl, if_pos (win_all at_ free i n hn hw), show at_ + (i : Int) - at_ = (i : Int) by omega, Int.toNat_natCast, Int.toNat_natCast]
/-! ### ExtentFull -/
def fullF (n k : Nat) : List Bool := rg n fun i => decide (k ≤ i)
theorem full_take (at_ : Int) (n k : Nat) (h : k < n) : ∃ s, taken at_ (fullF n k) 1 = some s ∧ s.1 = at_ + (k : Int) ∧ setTo at_ (fullF n k) s.1 1 false = fullF n (k + 1) := by
  have hw : Win (fullF n k) k 1 := (rg_win n _ k 1 (by omega)).2 ⟨by omega, fun t h1 h2 => by simp; omega⟩
  obtain ⟨s, h1, h2⟩ := taken_eq at_ (fullF n k) 1 k (by omega) hw (fun j hj hw => by
    have := ((rg_win n _ j 1 (by omega)).1 hw).2 j (by omega) (by omega)
    simp at this
    omega)
  refine ⟨s, h1, h2, ?_⟩
  rw [h2]
  have := setTo_win at_ (fullF n k) k 1 (by omega) hw
  rw [show ((1 : Nat) : Int) = 1 from rfl] at this
  rw [this]
  unfold fullF
  rw [rg_fill _ _ _ _ _ (by omega)]
  refine rg_ext fun i _ => ?_
  by_cases h3 : i = k
  · subst h3; simp
  · rw [if_neg (by omega)]
    simp
    omega
theorem full_no (at_ : Int) (n : Nat) : taken at_ (fullF n n) 1 = none := by
  refine taken_no at_ _ 1 (by omega) fun j hw => ?_
  have := (rg_win n _ j 1 (by omega)).1 hw
  have h2 := this.2 j (by omega) (by omega)
  simp at h2
  omega
theorem full_count (n k : Nat) : (fullF n k).count true = n - k := by
  induction n with
  | zero => simp [fullF, rg]
  | succ n ih =>
    unfold fullF at *
    rw [rg_succ, List.count_append, ih]
    by_cases h : k ≤ n
    · simp [h]; omega
    · simp [h]; omega
theorem spans_none (at_ : Int) (free : List Bool) (h : ∀ i : Nat, free[i]? ≠ some true) : spans at_ free = [] := by
  have : ∀ k, st at_ free k = ([], 0) := by
    intro k
    induction k with
    | zero => rfl
    | succ k ih => rw [st, if_neg (h k), ih]; rfl
  unfold spans spansK
  rw [this]
  rfl
theorem full_spans (at_ : Int) (n : Nat) : spans at_ (fullF n n) = [] := by
  refine spans_none _ _ fun i => ?_
  unfold fullF
  rw [rg_get]
  split
  · simp; omega
  · simp
set_option maxHeartbeats 2000000 in
theorem extentFull_walk (w : World) {x y : Int} (hx : (Lit.int .i64 x).wf = true) (hy : (Lit.int .i64 y).wf = true) :
    Calls Try.prog 6 #[.int .i64 x, .int .i64 y] w fun e w' => e = .returned (.bool true) ∧ Below w.heap.size w w' := by
  have hx' := bounds_i64 hx
  have hy' := bounds_i64 hy
  clear hx hy
  go_enter Try.func6, Try.ntmps6
  go_wp2_with (fail)
  refine (begun_c w).mono ?_
  rintro e w1 ⟨rfl, bel⟩
  have B1 := Lib.hid bel
  have z1 := bel.size
  clear bel
  by_cases c1 : x < 0
  · go_wp2_with (fail)
    go_ret
    exact ⟨rfl, B1.out⟩
  by_cases c2 : 100 < x
  · go_wp2_with (fail)
    go_ret
    exact ⟨rfl, B1.out⟩
  by_cases c3 : y < 0
  · go_wp2_with (fail)
    go_ret
    exact ⟨rfl, B1.out⟩
  by_cases c4 : 100 < y
  · go_wp2_with (fail)
    go_ret
    exact ⟨rfl, B1.out⟩
  obtain ⟨n, rfl⟩ := Int.eq_ofNat_of_zero_le (by omega : 0 ≤ y)
  have d1 : decide (x < 0) = false := by simp; omega
  have d2 : decide (100 < x) = false := by simp; omega
  have d3 : decide ((n : Int) < 0) = false := by simp
  have d4 : decide (100 < (n : Int)) = false := by simp; omega
  have hxr : 0 ≤ x ∧ x ≤ 100 := by omega
  have hnr : n ≤ 100 := by omega
  clear c1 c2 c3 c4 hx' hy'
  go_wp2_with (fail)
  refine (new_c w1 x n (by omega) (by omega) (by omega) (by omega)).mono ?_
  rintro e w2 ⟨⟨p, b, rfl, hp, hb, hr⟩, bel⟩
  rw [Int.toNat_natCast, show List.replicate n true = fullF n 0 by rw [rg_true]; exact rg_ext fun i _ => by simp] at hr
  have R2 := Lib.hid hr
  have B2 := Lib.hid (B1.out.trans (bel.mono z1))
  have z2 := bel.size
  clear hr bel
  go_wp2_with (fail)
  go_loopg [7, 8, 9] n (fun q i _ _ wr => ∃ k : Nat, k + q = n ∧ i = .int .i64 (k : Int) ∧ RoomAt wr p b n [] x (fullF n k) ∧ Below w.heap.size w wr)
  case atStart => exact ⟨0, by omega, rfl, R2.out, B2.out⟩
  case round =>
    obtain ⟨k, hk, rfl, hr, bel⟩ := hrel
    have hbw : w.heap.size ≤ b := by omega
    by_cases hlt : k < n
    · have i4 : (k : Int) < (n : Int) := by omega
      obtain ⟨s, ht, hs, hset⟩ := full_take x n k hlt
      have R := Lib.hid hr
      have BE := Lib.hid bel
      clear hr bel d1 d2 d3 d4
      go_wp2_with (fail)
      refine (take_c wr p b n [] x (fullF n k) R.out 1 (by omega)).mono ?_
      intro e w3 hpost
      obtain ⟨rfl, hr, fr⟩ := take_some hpost ht
      rw [hset] at hr
      rw [hs]
      have ra := hr.fr ((Fr.refl [] w3).alloc (.cells #[.int .i64 (x + (k : Int)), .int .i64 1] 30)) (by simp) (by simp)
      have ba := (BE.out.trans (fr.below (B := w.heap.size) BE.out.size (by simpa using hbw))).alloc (by have := BE.out.size; have := fr.size; omega) (.cells #[.int .i64 (x + (k : Int)), .int .i64 1] 30)
      have hcnt := full_count n (k + 1)
      have RA := Lib.hid ra
      have BA := Lib.hid ba
      clear hr fr hpost ra ba ht hs hset
      go_wp2_with (fail)
      refine (free_c _ p _ x (fullF n (k + 1)) RA.out.r).mono ?_
      rintro e w4 ⟨rfl, bel⟩
      rw [hcnt, show ((n - (k + 1) : Nat) : Int) = (n : Int) - (k : Int) - 1 by omega]
      have R4 := Lib.hid (RA.out.fr (Fr.of_below bel) (by simp) (by simp))
      have B4 := Lib.hid (BA.out.trans (bel.mono BA.out.size))
      clear bel hcnt
      go_wp2_with (fail)
      go_roundg (n - (k + 1))
      case measure => omega
      case rel => exact ⟨k + 1, by omega, by go_num, R4.out, B4.out⟩
    · have e : k = n := by omega
      subst e
      have R := Lib.hid hr
      have BE := Lib.hid bel
      have ht := full_no x k
      have hsp := full_spans x k
      clear hr bel d1 d2 d3 d4
      go_wp2_with (fail)
      refine (take_c wr p b k [] x (fullF k k) R.out 1 (by omega)).mono ?_
      intro e w3 hpost
      obtain ⟨rfl, hr, fr⟩ := take_none hpost ht
      have ra := hr.fr ((Fr.refl [] w3).alloc (.cells #[.int .i64 0, .int .i64 0] 30)) (by simp) (by simp)
      have ba := (BE.out.trans (fr.below (B := w.heap.size) BE.out.size (by simpa using hbw))).alloc (by have := BE.out.size; have := fr.size; omega) (.cells #[.int .i64 0, .int .i64 0] 30)
      have RA := Lib.hid ra
      have BA := Lib.hid ba
      clear hr fr hpost ra ba ht
      go_wp2_with (fail)
      refine (spans_c _ p _ x (fullF k k) RA.out.r).mono ?_
      rw [hsp]
      rintro e w4 ⟨⟨v', rfl, own⟩, bel⟩
      obtain ⟨a5, cap5, rfl⟩ := own_form own
      have B4 := Lib.hid (BA.out.trans (bel.mono BA.out.size))
      clear own bel hsp
      go_wp2_with (fail)
      go_ret
      exact ⟨rfl, B4.out⟩
end Go.Proofs.Ytbkjiinnojnkhaa
