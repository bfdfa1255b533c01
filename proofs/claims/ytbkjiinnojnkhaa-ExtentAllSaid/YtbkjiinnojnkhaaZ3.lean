import Derived.Test.YtbkjiinnojnkhaaZ2
import Derived.Test.YtbkjiinnojnkhaaY7
namespace Go.Proofs.Ytbkjiinnojnkhaa
open Go.RowKit
/-! ### ExtentAll: the plain law -/
/-- The room's own row, of a function of all places. -/
def own_ (a n : Nat) (g : Nat → Bool) : List Bool := rg n fun t => g (a + t)
structure Fits (a n : Nat) (g : Nat → Bool) : Prop where
  lo : ∀ t, t < a → g t = false
  hi : ∀ t, a + n ≤ t → g t = false
theorem Fits.same {a n : Nat} {g : Nat → Bool} (h : Fits a n g) (hN : a + n ≤ 130) : spans (a : Int) (own_ a n g) = spans 0 (rg 130 g) ∧ (own_ a n g).count true = (rg 130 g).count true :=
  ⟨(spans_shift a n 130 g hN h.lo h.hi).symm, (count_shift a n 130 g hN h.lo h.hi).symm⟩
theorem Fits.put {a n : Nat} {g : Nat → Bool} (h : Fits a n g) {i m : Nat} (h1 : a ≤ i) (h2 : i + m ≤ a + n) (c : Bool) : Fits a n (put g i m c) :=
  ⟨fun t ht => by unfold Ytbkjiinnojnkhaa.put; rw [if_neg (by omega)]; exact h.lo t ht, fun t ht => by unfold Ytbkjiinnojnkhaa.put; rw [if_neg (by omega)]; exact h.hi t ht⟩
theorem own_put (a n : Nat) (g : Nat → Bool) (i m : Nat) (c : Bool) (h : i + m ≤ n) : fillAt (own_ a n g) i m c = own_ a n (put g (a + i) m c) := by
  unfold own_
  rw [rg_fill _ _ _ _ _ h]
  refine rg_ext fun t _ => ?_
  unfold put
  by_cases h1 : i ≤ t ∧ t < i + m
  · rw [if_pos h1, if_pos (by omega)]
  · rw [if_neg h1, if_neg (by omega)]
/-- May a row be asked for at all? -/
def inside (a n : Nat) (x m : Int) : Bool := decide (1 ≤ m) && (decide ((a : Int) ≤ x) && decide (m ≤ (a : Int) + (n : Int) - x))
theorem inside_iff (a n : Nat) (x m : Int) : inside a n x m = true ↔ 1 ≤ m ∧ (a : Int) ≤ x ∧ m ≤ (a : Int) + (n : Int) - x := by
  unfold inside; simp
theorem all_iff (a n : Nat) (g : Nat → Bool) (x m : Int) (c : Bool) : isAll (a : Int) (own_ a n g) x m c = true ↔ inside a n x m = true ∧ ∀ t, t < m.toNat → g (x.toNat + t) = c := by
  rw [isAll_iff, inside_iff]
  unfold own_
  rw [rg_len]
  constructor
  · rintro ⟨h1, h2, h3, h4⟩
    refine ⟨⟨h1, h2, by omega⟩, fun t ht => ?_⟩
    have := h4 t ht
    rw [rg_get, if_pos (by omega)] at this
    rw [show x.toNat + t = a + ((x - (a : Int)).toNat + t) by omega]
    exact Option.some.inj this
  · rintro ⟨⟨h1, h2, h3⟩, h4⟩
    refine ⟨h1, h2, by omega, fun t ht => ?_⟩
    rw [rg_get, if_pos (by omega), show a + ((x - (a : Int)).toNat + t) = x.toNat + t by omega, h4 t ht]
theorem all_out {a n : Nat} {g : Nat → Bool} {x m : Int} {c : Bool} (h : inside a n x m = false) : isAll (a : Int) (own_ a n g) x m c = false := by
  rw [← Bool.not_eq_true, all_iff, h]
  simp
theorem all_yes {a n : Nat} {g : Nat → Bool} {x m : Int} {c : Bool} (h : inside a n x m = true) (h2 : ∀ t, t < m.toNat → g (x.toNat + t) = c) : isAll (a : Int) (own_ a n g) x m c = true := (all_iff a n g x m c).2 ⟨h, h2⟩
theorem all_no {a n : Nat} {g : Nat → Bool} {x m : Int} {c : Bool} {t : Nat} (ht : t < m.toNat) (h2 : g (x.toNat + t) = !c) : isAll (a : Int) (own_ a n g) x m c = false := by
  rw [← Bool.not_eq_true, all_iff]
  rintro ⟨_, h3⟩
  rw [h3 t ht] at h2
  cases c <;> simp at h2
theorem set_yes {a n : Nat} {g : Nat → Bool} {x m : Int} {c : Bool} (h : isAll (a : Int) (own_ a n g) x m (!c) = true) : setTo (a : Int) (own_ a n g) x m c = own_ a n (put g x.toNat m.toNat c) := by
  have h1 := (inside_iff a n x m).1 ((all_iff a n g x m (!c)).1 h).1
  unfold setTo
  rw [if_pos h, own_put _ _ _ _ _ _ (by omega), show a + (x - (a : Int)).toNat = x.toNat by omega]
theorem set_no {a n : Nat} {g : Nat → Bool} {x m : Int} {c : Bool} (h : isAll (a : Int) (own_ a n g) x m (!c) = false) : setTo (a : Int) (own_ a n g) x m c = own_ a n g := by
  unfold setTo
  rw [h]
  rfl
/-- Is a row of `m` free from the place `i` on? -/
def WinG (g : Nat → Bool) (i m : Nat) : Prop := ∀ t, i ≤ t → t < i + m → g t = true
theorem win_own {a n : Nat} {g : Nat → Bool} (hg : Fits a n g) (i m : Nat) (hm : 1 ≤ m) : Win (own_ a n g) i m ↔ WinG g (a + i) m := by
  unfold own_
  rw [rg_win _ _ _ _ hm]
  constructor
  · rintro ⟨_, h2⟩ t h3 h4
    have := h2 (t - a) (by omega) (by omega)
    rwa [show a + (t - a) = t by omega] at this
  · intro h
    refine ⟨?_, fun t h1 h2 => h _ (by omega) (by omega)⟩
    rcases Nat.lt_or_ge n (i + m) with h1 | h1
    · have h2 := h (a + i + m - 1) (by omega) (by omega)
      rw [hg.hi _ (by omega)] at h2
      cases h2
    · exact h1
theorem first_yes {a n : Nat} {g : Nat → Bool} (hg : Fits a n g) (v m : Nat) (hm : 1 ≤ m) (hv : a ≤ v) (hw : WinG g v m) (hmin : ∀ j, a ≤ j → j < v → ¬ WinG g j m) :
    ∃ s, taken (a : Int) (own_ a n g) (m : Int) = some s ∧ s.1 = (v : Int) := by
  obtain ⟨s, h1, h2⟩ := taken_eq (a : Int) (own_ a n g) m (v - a) hm ((win_own hg _ _ hm).2 (by rwa [show a + (v - a) = v by omega])) (fun j hj h => hmin (a + j) (by omega) (by omega) ((win_own hg _ _ hm).1 h))
  exact ⟨s, h1, by omega⟩
theorem first_no {a n : Nat} {g : Nat → Bool} (hg : Fits a n g) (m : Nat) (hm : 1 ≤ m) (hmin : ∀ j, a ≤ j → ¬ WinG g j m) : taken (a : Int) (own_ a n g) (m : Int) = none :=
  taken_no _ _ m hm fun j h => hmin (a + j) (by omega) ((win_own hg _ _ hm).1 h)
theorem first_none (a n : Nat) (g : Nat → Bool) (m : Int) (hm : m < 1) : taken (a : Int) (own_ a n g) m = none := by
  unfold taken
  rw [List.find?_eq_none]
  intro s _
  simp
  omega
theorem set_win {a n : Nat} {g : Nat → Bool} (hg : Fits a n g) (v m : Nat) (hm : 1 ≤ m) (hv : a ≤ v) (hw : WinG g v m) : setTo (a : Int) (own_ a n g) (v : Int) (m : Int) false = own_ a n (put g v m false) ∧ v + m ≤ a + n := by
  have h1 : v + m ≤ a + n := by
    have := (win_own hg (v - a) m hm).2 (by rwa [show a + (v - a) = v by omega])
    have := ((rg_win n (fun t => g (a + t)) (v - a) m hm).1 this).1
    omega
  refine ⟨?_, h1⟩
  have h2 := set_yes (a := a) (n := n) (g := g) (x := (v : Int)) (m := (m : Int)) (c := false) (all_yes ((inside_iff a n _ _).2 ⟨by omega, by omega, by omega⟩) (fun t ht => hw _ (by omega) (by omega)))
  rw [Int.toNat_natCast, Int.toNat_natCast] at h2
  exact h2
end Go.Proofs.Ytbkjiinnojnkhaa
