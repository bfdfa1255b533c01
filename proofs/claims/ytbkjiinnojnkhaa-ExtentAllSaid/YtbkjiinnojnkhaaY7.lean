import Derived.Test.YtbkjiinnojnkhaaY6
import Derived.Deep.RegionLawGrows
import Derived.Deep.Upon
namespace Go.Proofs.Ytbkjiinnojnkhaa
open Go.RowKit
/-! ### what was taken -/
def InR (s : Nat × Nat) (t : Nat) : Prop := s.1 ≤ t ∧ t < s.1 + s.2
def Apart (a b : Nat × Nat) : Prop := a.1 + a.2 ≤ b.1 ∨ b.1 + b.2 ≤ a.1
structure Out (N : Nat) (f : Nat → Bool) (L : List (Nat × Nat)) : Prop where
  ok : ∀ s ∈ L, 1 ≤ s.2 ∧ s.1 + s.2 ≤ N
  apart : L.Pairwise Apart
  gone : ∀ t, t < N → (f t = false ↔ ∃ s ∈ L, InR s t)
def put (f : Nat → Bool) (i n : Nat) (c : Bool) : Nat → Bool := fun t => if i ≤ t ∧ t < i + n then c else f t
theorem Out.take {N : Nat} {f : Nat → Bool} {L : List (Nat × Nat)} (h : Out N f L) {i n : Nat} (hn : 1 ≤ n) (hi : i + n ≤ N) (hw : ∀ t, i ≤ t → t < i + n → f t = true) : Out N (put f i n false) (L ++ [(i, n)]) := by
  refine ⟨fun s hs => ?_, ?_, fun t ht => ?_⟩
  · rcases List.mem_append.1 hs with hs | hs
    · exact h.ok s hs
    · simp at hs; subst hs; exact ⟨hn, hi⟩
  · rw [List.pairwise_append]
    refine ⟨h.apart, by simp, fun a ha b hb => ?_⟩
    simp at hb
    subst hb
    obtain ⟨h1, h2⟩ := h.ok a ha
    unfold Apart
    simp only
    by_cases c1 : a.1 + a.2 ≤ i
    · exact .inl c1
    · by_cases c2 : i + n ≤ a.1
      · exact .inr c2
      · exfalso
        have h3 := (h.gone (max a.1 i) (by omega)).2 ⟨a, ha, by unfold InR; omega⟩
        rw [hw _ (by omega) (by omega)] at h3
        cases h3
  · unfold put
    constructor
    · intro hf
      split at hf
      · next hin => exact ⟨(i, n), by simp, hin⟩
      · obtain ⟨s, hs, hin⟩ := (h.gone t ht).1 hf
        exact ⟨s, by simp [hs], hin⟩
    · rintro ⟨s, hs, hin⟩
      split
      · rfl
      · next hout =>
        rcases List.mem_append.1 hs with hs | hs
        · exact (h.gone t ht).2 ⟨s, hs, hin⟩
        · simp at hs; subst hs; exact absurd hin hout
theorem Out.give {N : Nat} {f : Nat → Bool} {L1 L2 : List (Nat × Nat)} {i n : Nat} (h : Out N f (L1 ++ (i, n) :: L2)) : Out N (put f i n true) (L1 ++ L2) := by
  have hp := h.apart
  rw [List.pairwise_append, List.pairwise_cons] at hp
  obtain ⟨p1, ⟨p2, p3⟩, p4⟩ := hp
  have hap : ∀ s ∈ L1 ++ L2, Apart s (i, n) := fun s hs => by
    rcases List.mem_append.1 hs with hs | hs
    · exact p4 s hs _ (by simp)
    · have := p2 s hs
      unfold Apart at *
      omega
  have hmem : ∀ s, s ∈ L1 ++ L2 → s ∈ L1 ++ (i, n) :: L2 := fun s hs => by
    rcases List.mem_append.1 hs with hs | hs
    · simp [hs]
    · simp [hs]
  refine ⟨fun s hs => h.ok s (hmem s hs), ?_, fun t ht => ?_⟩
  · rw [List.pairwise_append]
    exact ⟨p1, p3, fun a ha b hb => p4 a ha b (by simp [hb])⟩
  · unfold put
    constructor
    · intro hf
      split at hf
      · cases hf
      · next hout =>
        obtain ⟨s, hs, hin⟩ := (h.gone t ht).1 hf
        rcases List.mem_append.1 hs with hs | hs
        · exact ⟨s, by simp [hs], hin⟩
        · rcases List.mem_cons.1 hs with rfl | hs
          · exact absurd hin hout
          · exact ⟨s, by simp [hs], hin⟩
    · rintro ⟨s, hs, hin⟩
      have ha := hap s hs
      rw [if_neg (by unfold Apart InR at *; simp only at ha; omega)]
      exact (h.gone t ht).2 ⟨s, hmem s hs, hin⟩
theorem Out.win {N : Nat} {f : Nat → Bool} {L1 L2 : List (Nat × Nat)} {i n : Nat} (h : Out N f (L1 ++ (i, n) :: L2)) : 1 ≤ n ∧ i + n ≤ N ∧ ∀ t, t < n → (rg N f)[i + t]? = some false := by
  obtain ⟨h1, h2⟩ := h.ok (i, n) (by simp)
  simp only at h1 h2
  refine ⟨h1, h2, fun t ht => ?_⟩
  rw [rg_get, if_pos (by omega), (h.gone (i + t) (by omega)).2 ⟨(i, n), by simp, by unfold InR; simp only; omega⟩]
theorem put_rg (N : Nat) (f : Nat → Bool) (i n : Nat) (c : Bool) (h : i + n ≤ N) : fillAt (rg N f) i n c = rg N (put f i n c) := rg_fill N f i n c h
theorem out_end {N : Nat} {f : Nat → Bool} (h : Out N f []) : rg N f = rg N fun _ => true := rg_ext fun t ht => by
  cases hf : f t
  · obtain ⟨s, hs, _⟩ := (h.gone t ht).1 hf
    cases hs
  · rfl
theorem out_start (N : Nat) : Out N (fun _ => true) [] := ⟨by simp, by simp, fun t _ => by simp⟩
theorem all200 : spans 5 (rg 200 fun _ => true) = [(5, 200)] := by decide +kernel
theorem count200 : (rg 200 fun _ => true).count true = 200 := by decide +kernel
/-- What is taken out of it. -/
theorem out_take {N : Nat} {f : Nat → Bool} {L : List (Nat × Nat)} (h : Out N f L) (at_ : Int) (n : Nat) (hn : 1 ≤ n) {s : Int × Int} (hs : taken at_ (rg N f) (n : Int) = some s) :
    ∃ i : Nat, s.1 = at_ + (i : Int) ∧ i + n ≤ N ∧ Out N (put f i n false) (L ++ [(i, n)]) ∧ setTo at_ (rg N f) s.1 (n : Int) false = rg N (put f i n false) := by
  have hf := taken_first at_ (rg N f) n hn
  rw [hs] at hf
  obtain ⟨i, e, hi, hw, _⟩ := hf
  rw [rg_len] at hi
  have hw' := (rg_win N f i n hn).1 hw
  refine ⟨i, e, hi, h.take hn hi hw'.2, ?_⟩
  rw [e, setTo_win at_ _ i n hn hw, put_rg _ _ _ _ _ hi]
/-- What is given back. -/
theorem out_give {N : Nat} {f : Nat → Bool} {L1 L2 : List (Nat × Nat)} {i n : Nat} (h : Out N f (L1 ++ (i, n) :: L2)) (at_ : Int) :
    isAll at_ (rg N f) (at_ + (i : Int)) (n : Int) false = true ∧ setTo at_ (rg N f) (at_ + (i : Int)) (n : Int) true = rg N (put f i n true) ∧
    isAll at_ (rg N (put f i n true)) (at_ + (i : Int)) (n : Int) false = false ∧ setTo at_ (rg N (put f i n true)) (at_ + (i : Int)) (n : Int) true = rg N (put f i n true) := by
  obtain ⟨h1, h2, h3⟩ := h.win
  have h4 : isAll at_ (rg N (put f i n true)) (at_ + (i : Int)) (n : Int) false = false := by
    rw [← Bool.not_eq_true, isAll_iff]
    rintro ⟨_, _, _, h5⟩
    have := h5 0 (by omega)
    rw [show (at_ + (i : Int) - at_).toNat + 0 = i by omega, rg_get, if_pos (by omega)] at this
    unfold put at this
    rw [if_pos (by omega)] at this
    cases this
  refine ⟨isAll_at at_ _ i n false h1 h3, ?_, h4, ?_⟩
  · rw [setTo_at at_ _ i n true h1 h3, put_rg _ _ _ _ _ h2]
  · unfold setTo
    rw [show (!true) = false from rfl, h4]
    rfl
end Go.Proofs.Ytbkjiinnojnkhaa
