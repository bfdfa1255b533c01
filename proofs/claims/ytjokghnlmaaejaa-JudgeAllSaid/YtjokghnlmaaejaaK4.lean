import Derived.Test.YtjokghnlmaaejaaN0
namespace Go.Proofs.Ytjokghnlmaaejaa
open Go.RowKit
/-! ### the loops that set: what they make of what rises -/
section
variable {α : Type} (key : α → ByteArray) (k : ByteArray) (y : α)
def klt (x : α) : Bool := decide (cmpS (key x) k < 0)
def kgt (x : α) : Bool := decide (cmpS k (key x) < 0)
def RiseK (l : List α) : Prop := l.Pairwise fun p q => cmpS (key p) (key q) < 0
theorem fold_done : ∀ (l : List α) (OUT : List α), l.foldl (setStep key k y) (true, OUT) = (true, OUT ++ l.filter fun x => decide (key x ≠ k))
  | [], OUT => by simp
  | x :: l, OUT => by
    rw [List.foldl_cons]
    have : setStep key k y (true, OUT) x = (true, OUT ++ if key x = k then [] else [x]) := by
      rw [setStep_eq]; simp
    rw [this, fold_done l]
    by_cases h : key x = k
    · simp [h]
    · simp [h]
theorem cmp_cases (a b : ByteArray) : (cmpS a b < 0 ∧ a ≠ b ∧ ¬ cmpS b a < 0) ∨ (a = b ∧ ¬ cmpS a b < 0 ∧ ¬ cmpS b a < 0) ∨ (cmpS b a < 0 ∧ a ≠ b ∧ ¬ cmpS a b < 0) := by
  have h1 := cmpS_swap a b
  have h2 := cmpS_eq a b
  by_cases e : a = b
  · have := h2.2 e
    exact .inr (.inl ⟨e, by omega, by omega⟩)
  · have : cmpS a b ≠ 0 := fun h => e (h2.1 h)
    rcases (by omega : cmpS a b < 0 ∨ cmpS b a < 0) with h | h
    · exact .inl ⟨h, e, by omega⟩
    · exact .inr (.inr ⟨h, e, by omega⟩)
theorem tail_gt {x : α} {l : List α} (h : RiseK key (x :: l)) (hx : ¬ cmpS (key x) k < 0) : l.filter (klt key k) = [] ∧ l.filter (kgt key k) = l ∧ (l.filter fun x => decide (key x ≠ k)) = l := by
  unfold RiseK at h
  rw [List.pairwise_cons] at h
  have hk : ∀ p ∈ l, cmpS k (key p) < 0 := by
    intro p hp
    have h1 := h.1 p hp
    rcases cmp_cases (key x) k with c | c | c
    · exact absurd c.1 hx
    · rw [← c.1]; exact h1
    · exact cmpS_trans c.1 h1
  refine ⟨filter_none fun p hp => ?_, filter_all fun p hp => ?_, filter_all fun p hp => ?_⟩
  · have h1 := hk p hp
    have := cmpS_swap k (key p)
    simp only [klt, decide_eq_false_iff_not]
    omega
  · simpa [kgt] using hk p hp
  · have h1 := hk p hp
    simp only [ne_eq, decide_eq_true_eq]
    intro e
    rw [e, cmpS_self] at h1
    omega
theorem filter_ne : ∀ (l : List α), RiseK key l → (l.filter fun x => decide (key x ≠ k)) = l.filter (klt key k) ++ l.filter (kgt key k)
  | [], _ => rfl
  | x :: l, h => by
    by_cases hx : cmpS (key x) k < 0
    · have ih := filter_ne l (by unfold RiseK at *; exact (List.pairwise_cons.1 h).2)
      rcases cmp_cases (key x) k with c | c | c
      · rw [List.filter_cons, List.filter_cons, List.filter_cons, ih]
        simp [klt, kgt, c.1, c.2.1, c.2.2]
      · exact absurd hx c.2.1
      · exact absurd hx c.2.2
    · obtain ⟨t1, t2, t3⟩ := tail_gt key k h hx
      rw [List.filter_cons, List.filter_cons, List.filter_cons, t1, t2, t3]
      rcases cmp_cases (key x) k with c | c | c
      · exact absurd c.1 hx
      · simp [klt, kgt, c.1, cmpS_self]
      · simp [klt, kgt, c.1, c.2.1, c.2.2]
theorem fold_eq : ∀ (l : List α) (OUT : List α), RiseK key l →
    (if (l.foldl (setStep key k y) (false, OUT)).1 then (l.foldl (setStep key k y) (false, OUT)).2 else (l.foldl (setStep key k y) (false, OUT)).2 ++ [y]) = OUT ++ (l.filter (klt key k) ++ [y] ++ l.filter (kgt key k))
  | [], OUT, _ => by simp
  | x :: l, OUT, h => by
    rw [List.foldl_cons]
    by_cases hx : cmpS (key x) k < 0
    · have hl : lessB (key x) k = true := by rw [lessB_eq]; exact decide_eq_true hx
      rcases cmp_cases (key x) k with c | c | c
      · have : setStep key k y (false, OUT) x = (false, OUT ++ [x]) := by rw [setStep_eq, hl]; simp [c.2.1]
        rw [this, fold_eq l _ (by unfold RiseK at *; exact (List.pairwise_cons.1 h).2), List.filter_cons, List.filter_cons]
        simp [klt, kgt, c.1, c.2.2]
      · exact absurd hx c.2.1
      · exact absurd hx c.2.2
    · have hl : lessB (key x) k = false := by rw [lessB_eq]; exact decide_eq_false hx
      obtain ⟨t1, t2, t3⟩ := tail_gt key k h hx
      have : setStep key k y (false, OUT) x = (true, OUT ++ [y] ++ if key x = k then [] else [x]) := by rw [setStep_eq, hl]; simp
      rw [this, fold_done, List.filter_cons, List.filter_cons, t1, t2, t3]
      rcases cmp_cases (key x) k with c | c | c
      · exact absurd c.1 hx
      · simp [klt, kgt, c.1, cmpS_self]
      · simp [klt, kgt, c.1, c.2.1, c.2.2]
end
/-! ### records -/
theorem refSet_eq {l : List RR} (h : RiseK RR.k l) (r : RR) : refSetF l r = l.filter (klt RR.k r.k) ++ [r] ++ l.filter (kgt RR.k r.k) := by
  have := fold_eq RR.k r.k r l [] h
  rw [List.nil_append] at this
  exact this
theorem lawSet_eq {l : List PR} (h : Rise l) (r : RR) : lawSetF l r = setS l r := by
  have h' : RiseK PR.k l := h
  unfold lawSetF setFold lawSetD lawSetN setS newP
  cases hg : r.gone
  · have := fold_eq PR.k r.k (⟨r.k, r.v⟩ : PR) l [] h'
    rw [List.nil_append] at this
    exact this
  · rw [fold_done]
    simp only [if_true, List.nil_append, List.append_nil]
    exact filter_ne PR.k r.k l h'
theorem rise_refSet {l : List RR} (h : RiseK RR.k l) (r : RR) : RiseK RR.k (refSetF l r) := by
  rw [refSet_eq h]
  unfold RiseK
  have hlow : ∀ p ∈ l.filter (klt RR.k r.k), cmpS p.k r.k < 0 := fun p hp => by simpa [klt] using (List.mem_filter.1 hp).2
  have hup : ∀ p ∈ l.filter (kgt RR.k r.k), cmpS r.k p.k < 0 := fun p hp => by simpa [kgt] using (List.mem_filter.1 hp).2
  rw [List.pairwise_append, List.pairwise_append]
  unfold RiseK at h
  refine ⟨⟨h.filter _, by simp, ?_⟩, h.filter _, ?_⟩
  · intro a ha b hb
    simp at hb
    subst hb
    exact hlow a ha
  · intro a ha b hb
    rcases List.mem_append.1 ha with ha | ha
    · exact cmpS_trans (hlow a ha) (hup b hb)
    · simp at ha
      subst ha
      exact hup b hb
theorem refSet_len {l : List RR} (h : RiseK RR.k l) (r : RR) : (refSetF l r).length ≤ l.length + 1 := by
  rw [refSet_eq h]
  have h1 : (l.filter (klt RR.k r.k)).length + (l.filter (kgt RR.k r.k)).length = (l.filter fun x => decide (x.k ≠ r.k)).length := by
    rw [← List.length_append, ← filter_ne RR.k r.k l h]
  have h2 : (l.filter fun x => decide (x.k ≠ r.k)).length ≤ l.length := List.length_filter_le _ _
  simp only [List.length_append, List.length_cons, List.length_nil]
  omega
def newestF (L : List RR) : List RR := L.foldl refSetF []
theorem newest_succ {l : List RR} {k : Nat} (h : k < l.length) : newestF (l.take (k + 1)) = refSetF (newestF (l.take k)) l[k] := by
  unfold newestF
  rw [List.take_succ_eq_append_getElem h, List.foldl_append]
  rfl
theorem newest_rise (L : List RR) : RiseK RR.k (newestF L) ∧ (newestF L).length ≤ L.length := by
  have : ∀ (L : List RR) (l : List RR), RiseK RR.k l → RiseK RR.k (L.foldl refSetF l) ∧ (L.foldl refSetF l).length ≤ l.length + L.length := by
    intro L
    induction L with
    | nil => intro l h; exact ⟨h, by simp⟩
    | cons r L ih =>
      intro l h
      have h1 := ih _ (rise_refSet h r)
      have h2 := refSet_len h r
      refine ⟨h1.1, ?_⟩
      have h3 := h1.2
      simp only [List.foldl_cons, List.length_cons]
      omega
  have := this L [] List.Pairwise.nil
  simpa [newestF] using this
def pairR (r : RR) : List PR := if r.gone then [] else [⟨r.k, r.v⟩]
def pairsF (l : List RR) : List PR := l.flatMap pairR
theorem pairs_filter (f : PR → Bool) (g : RR → Bool) (h : ∀ r, r.gone = false → f ⟨r.k, r.v⟩ = g r) : ∀ l : List RR, pairsF (l.filter g) = (pairsF l).filter f
  | [] => rfl
  | r :: l => by
    have ih := pairs_filter f g h l
    unfold pairsF at *
    rw [List.flatMap_cons, List.filter_append, ← ih, List.filter_cons]
    cases hg : r.gone
    · have := h r hg
      cases hr : g r
      · rw [hr] at this
        simp [pairR, hg, this]
      · rw [hr] at this
        simp [pairR, hg, this]
    · cases hr : g r <;> simp [pairR, hg]
theorem pairs_set {N : List RR} (h : RiseK RR.k N) (r : RR) : pairsF (refSetF N r) = setS (pairsF N) r := by
  rw [refSet_eq h]
  have e : ∀ a b : List RR, pairsF (a ++ b) = pairsF a ++ pairsF b := fun a b => List.flatMap_append
  rw [e, e]
  unfold setS
  rw [pairs_filter (below r.k) (klt RR.k r.k) (fun _ _ => rfl) N, pairs_filter (upon r.k) (kgt RR.k r.k) (fun _ _ => rfl) N]
  congr 2
  simp [pairsF, pairR, newP]
theorem of_newest (L : List RR) : ∀ (N : List RR) (l : List PR), RiseK RR.k N → l = pairsF N → L.foldl setS l = pairsF (L.foldl refSetF N) := by
  induction L with
  | nil => intro N l _ h; exact h
  | cons r L ih =>
    intro N l hN h
    rw [List.foldl_cons, List.foldl_cons]
    exact ih _ _ (rise_refSet hN r) (by rw [h, pairs_set hN])
theorem fold_filter : ∀ (L : List RR) (l : List PR), sortedL l = true → L.foldl setF l = (L.filter mayR).foldl setF l
  | [], _, _ => rfl
  | r :: L, l, h => by
    rw [List.foldl_cons, List.filter_cons]
    cases hm : mayR r
    · have : setF l r = l := by unfold setF; rw [h, hm]; rfl
      rw [this, if_neg (by simp)]
      exact fold_filter L l h
    · rw [if_pos rfl, List.foldl_cons]
      refine fold_filter L _ ?_
      rw [setF_eq h hm]
      exact sorted_setS h hm
/-- JudgeOf's plain law. -/
theorem of_law (L : List RR) : ofF L = pairsF (newestF (L.filter mayR)) := by
  have h1 : ofF L = ofF (L.filter mayR) := fold_filter L [] sorted_nil
  have h2 := (ofF_may (L := L.filter mayR) (fun r hr => (List.mem_filter.1 hr).2)).2
  rw [h1, h2]
  exact of_newest _ [] [] List.Pairwise.nil rfl
end Go.Proofs.Ytjokghnlmaaejaa
