import Derived.Test.YtbkjiinnojnkhaaX7
namespace Go.Proofs.Ytbkjiinnojnkhaa
open Go.RowKit
/-! ### the first row that is long enough -/
/-- From the `i`-th sector on `n` are free. -/
def Win (free : List Bool) (i n : Nat) : Prop := ∀ t, t < n → free[i + t]? = some true
def FirstIn (at_ : Int) (free : List Bool) (n k : Nat) : Option (Int × Int) → Prop
  | none => ∀ j, j + n ≤ k → ¬ Win free j n
  | some s => ∃ i : Nat, s.1 = at_ + (i : Int) ∧ i + n ≤ k ∧ Win free i n ∧ ∀ j, j < i → ¬ Win free j n
theorem first_ext {at_ : Int} {free : List Bool} {n k : Nat} {o : Option (Int × Int)} (h : FirstIn at_ free n k o) (hn : o = none → k + 1 < n ∨ ¬ Win free (k + 1 - n) n) : FirstIn at_ free n (k + 1) o := by
  cases o with
  | some s =>
    obtain ⟨i, h1, h2, h3, h4⟩ := h
    exact ⟨i, h1, by omega, h3, h4⟩
  | none =>
    intro j hj hw
    by_cases e : j + n = k + 1
    · rcases hn rfl with h1 | h1
      · omega
      · exact h1 (by rwa [show k + 1 - n = j by omega])
    · exact h j (by omega) hw
theorem first_k (at_ : Int) (free : List Bool) (n : Nat) (hn : 1 ≤ n) : ∀ k, FirstIn at_ free n k ((spansK at_ free k).find? fun s => decide ((n : Int) ≤ s.2))
  | 0 => by
    simp only [spansK, st]
    intro j hj hw
    omega
  | k + 1 => by
    have ih := first_k at_ free n hn k
    have hcur := st_cur at_ free k
    have hle := st_le at_ free k
    by_cases hf : free[k]? = some true
    · rcases Nat.eq_zero_or_pos (st at_ free k).2 with hm | hm
      · rw [spans_new at_ free k hf hm, List.find?_append]
        cases hfi : (spansK at_ free k).find? fun s => decide ((n : Int) ≤ s.2) with
        | some s =>
          rw [hfi] at ih
          exact first_ext ih (by simp)
        | none =>
          rw [hfi] at ih
          rw [Option.none_or]
          by_cases h1 : n = 1
          · subst h1
            refine ⟨k, rfl, by omega, fun t ht => ?_, fun j hj hw => ih j (by omega) hw⟩
            rw [show t = 0 by omega]; exact hf
          · have : (List.find? (fun s : Int × Int => decide ((n : Int) ≤ s.2)) [(at_ + (k : Int), 1)]) = none := by
              simp; omega
            rw [this]
            refine first_ext ih fun _ => ?_
            by_cases h2 : k + 1 < n
            · exact .inl h2
            · right
              intro hw
              have h3 := hw (n - 2) (by omega)
              have h4 := hcur.2 (by omega)
              rw [hm, Nat.sub_zero] at h4
              exact h4 (by rw [← h3]; congr 1; omega)
      · have hm' : (st at_ free k).2 ≠ 0 := by omega
        have e1 : spansK at_ free k = (st at_ free k).1 ++ [(at_ + (k : Int) - ((st at_ free k).2 : Int), ((st at_ free k).2 : Int))] := by
          unfold spansK; rw [if_neg hm']
        have e2 : spansK at_ free (k + 1) = (st at_ free k).1 ++ [(at_ + (k : Int) - ((st at_ free k).2 : Int), ((st at_ free k).2 : Int) + 1)] := by
          unfold spansK
          rw [st, if_pos hf]
          simp
          omega
        rw [e1, List.find?_append] at ih
        rw [e2, List.find?_append]
        cases hfi : (st at_ free k).1.find? fun s => decide ((n : Int) ≤ s.2) with
        | some s =>
          rw [hfi] at ih
          exact first_ext ih (by simp)
        | none =>
          rw [hfi, Option.none_or] at ih
          rw [Option.none_or]
          by_cases h1 : n ≤ (st at_ free k).2
          · have d1 : decide ((n : Int) ≤ ((st at_ free k).2 : Int)) = true := by simpa using h1
            have d2 : decide ((n : Int) ≤ ((st at_ free k).2 : Int) + 1) = true := by simp; omega
            rw [List.find?_cons, d1] at ih
            rw [List.find?_cons, d2]
            obtain ⟨i, a1, a2, a3, a4⟩ := ih
            exact ⟨i, a1, by omega, a3, a4⟩
          · have d1 : decide ((n : Int) ≤ ((st at_ free k).2 : Int)) = false := by simp; omega
            rw [List.find?_cons, d1] at ih
            change FirstIn at_ free n k none at ih
            by_cases h2 : n = (st at_ free k).2 + 1
            · have d2 : decide ((n : Int) ≤ ((st at_ free k).2 : Int) + 1) = true := by simp; omega
              rw [List.find?_cons, d2]
              refine ⟨k - (st at_ free k).2, by simp; omega, by omega, fun t ht => ?_, fun j hj hw => ih j (by omega) hw⟩
              by_cases h3 : t = (st at_ free k).2
              · rw [h3, show k - (st at_ free k).2 + (st at_ free k).2 = k by omega]; exact hf
              · exact hcur.1 _ (by omega) (by omega)
            · have d2 : decide ((n : Int) ≤ ((st at_ free k).2 : Int) + 1) = false := by simp; omega
              rw [List.find?_cons, d2]
              refine first_ext ih fun _ => ?_
              by_cases h3 : k + 1 < n
              · exact .inl h3
              · right
                intro hw
                have h4 := hw (k - (st at_ free k).2 - 1 - (k + 1 - n)) (by omega)
                exact hcur.2 (by omega) (by rw [← h4]; congr 1; omega)
    · have e : spansK at_ free (k + 1) = spansK at_ free k := by
        unfold spansK
        rw [st, if_neg hf]
        by_cases h : (st at_ free k).2 = 0
        · simp [h]
        · simp [h]
      rw [e]
      refine first_ext ih fun _ => ?_
      by_cases h2 : k + 1 < n
      · exact .inl h2
      · right
        intro hw
        have h3 := hw (n - 1) (by omega)
        exact hf (by rw [← h3]; congr 1; omega)
/-- Which row is taken. -/
def taken (at_ : Int) (free : List Bool) (n : Int) : Option (Int × Int) := (spans at_ free).find? fun s => decide (1 ≤ n) && decide (n ≤ s.2)
theorem taken_first (at_ : Int) (free : List Bool) (n : Nat) (hn : 1 ≤ n) : FirstIn at_ free n free.length (taken at_ free (n : Int)) := by
  have h := first_k at_ free n hn free.length
  have e : (fun s : Int × Int => decide (1 ≤ (n : Int)) && decide ((n : Int) ≤ s.2)) = fun s => decide ((n : Int) ≤ s.2) := by
    funext s
    rw [show decide (1 ≤ (n : Int)) = true by simp; omega, Bool.true_and]
  unfold taken
  rw [e]
  exact h
theorem win_all (at_ : Int) (free : List Bool) (i n : Nat) (hn : 1 ≤ n) (hw : Win free i n) : isAll at_ free (at_ + (i : Int)) (n : Int) true = true := by
  have h1 : i + n ≤ free.length := by
    have := hw (n - 1) (by omega)
    obtain ⟨h, _⟩ := List.getElem?_eq_some_iff.1 this
    omega
  unfold isAll
  rw [show at_ + (i : Int) - at_ = (i : Int) by omega, decide_eq_true (by omega), Bool.true_and, Int.toNat_natCast, Int.toNat_natCast]
  rw [Bool.not_eq_true']
  rw [← Bool.not_eq_true, List.contains_iff_mem]
  intro hm
  obtain ⟨t, ht, e⟩ := List.getElem_of_mem hm
  have ht' : t < n := by simp at ht; omega
  have := hw t ht'
  rw [List.getElem_take, List.getElem_drop] at e
  rw [List.getElem?_eq_getElem (by omega)] at this
  rw [e] at this
  simp at this
end Go.Proofs.Ytbkjiinnojnkhaa
