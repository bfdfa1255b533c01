import Derived.Test.YtjokghnlmaaejaaK1
namespace Go.Proofs.Ytjokghnlmaaejaa
open Go.RowKit
/-! ### what Set makes, in plain words -/
def upon (k : ByteArray) (p : PR) : Bool := decide (cmpS k p.k < 0)
def newP (r : RR) : List PR := if r.gone then [] else [⟨r.k, r.v⟩]
/-- What is smaller, what is new, what is greater. -/
def setS (l : List PR) (r : RR) : List PR := l.filter (below r.k) ++ newP r ++ l.filter (upon r.k)
theorem filter_all {α : Type} {p : α → Bool} {l : List α} (h : ∀ x ∈ l, p x = true) : l.filter p = l := List.filter_eq_self.2 h
theorem filter_none {α : Type} {p : α → Bool} {l : List α} (h : ∀ x ∈ l, p x = false) : l.filter p = [] := by
  rw [List.filter_eq_nil_iff]
  intro x hx
  simp [h x hx]
/-- Rising pairs in three parts. -/
theorem rise_split {l : List PR} (h : Rise l) (k : ByteArray) : ∃ A M B, l = A ++ M ++ B ∧ A.length = lowI l k ∧ (∀ p ∈ A, cmpS p.k k < 0) ∧ (∀ p ∈ B, cmpS k p.k < 0) ∧ ((M = [] ∧ hasAt l (lowI l k) k = false) ∨ ∃ q, M = [q] ∧ q.k = k ∧ hasAt l (lowI l k) k = true) := by
  have hA : ∀ p ∈ l.take (lowI l k), cmpS p.k k < 0 := by
    intro p hp
    obtain ⟨i, hi, rfl⟩ := List.getElem_of_mem hp
    rw [List.getElem_take]
    rw [List.length_take] at hi
    exact (lowI_iff h k i (by omega)).2 (by omega)
  have hAl : (l.take (lowI l k)).length = lowI l k := by rw [List.length_take, Nat.min_eq_left (lowI_le l k)]
  by_cases hlt : lowI l k < l.length
  · have hge : ¬ cmpS l[lowI l k].k k < 0 := fun hh => by have := (lowI_iff h k _ hlt).1 hh; omega
    have hdrop : l.drop (lowI l k) = l[lowI l k] :: l.drop (lowI l k + 1) := List.drop_eq_getElem_cons hlt
    have hrest : ∀ p ∈ l.drop (lowI l k + 1), cmpS l[lowI l k].k p.k < 0 := by
      intro p hp
      obtain ⟨i, hi, rfl⟩ := List.getElem_of_mem hp
      rw [List.getElem_drop]
      rw [List.length_drop] at hi
      exact (List.pairwise_iff_getElem.1 h) _ _ hlt (by omega) (by omega)
    by_cases heq : l[lowI l k].k = k
    · refine ⟨_, [l[lowI l k]], l.drop (lowI l k + 1), ?_, hAl, hA, fun p hp => ?_, .inr ⟨_, rfl, heq, ?_⟩⟩
      · rw [List.append_assoc, List.singleton_append, ← hdrop, List.take_append_drop]
      · have := hrest p hp
        rw [heq] at this
        exact this
      · unfold hasAt
        rw [List.getElem?_eq_getElem hlt]
        simp only [decide_eq_true_eq]
        rw [heq]
        exact cmpS_self k
    · have hk : cmpS k l[lowI l k].k < 0 := by
        have h1 := cmpS_swap l[lowI l k].k k
        have h2 : cmpS l[lowI l k].k k ≠ 0 := fun e => heq ((cmpS_eq _ _).1 e)
        omega
      refine ⟨_, [], l.drop (lowI l k), by simp, hAl, hA, fun p hp => ?_, .inl ⟨rfl, ?_⟩⟩
      · rw [hdrop] at hp
        rcases List.mem_cons.1 hp with rfl | hp
        · exact hk
        · exact cmpS_trans hk (hrest p hp)
      · unfold hasAt
        rw [List.getElem?_eq_getElem hlt]
        simp only [decide_eq_false_iff_not]
        exact fun e => heq ((cmpS_eq _ _).1 e)
  · have e : lowI l k = l.length := by have := lowI_le l k; omega
    refine ⟨_, [], [], by rw [e]; simp, hAl, hA, by simp, .inl ⟨rfl, ?_⟩⟩
    unfold hasAt
    rw [List.getElem?_eq_none (by omega)]
theorem below_of {k : ByteArray} {p : PR} (h : cmpS p.k k < 0) : below k p = true := by simpa [below] using h
theorem not_below {k : ByteArray} {p : PR} (h : cmpS k p.k < 0) : below k p = false := by
  have := cmpS_swap k p.k
  simp only [below, decide_eq_false_iff_not]
  omega
theorem upon_of {k : ByteArray} {p : PR} (h : cmpS k p.k < 0) : upon k p = true := by simpa [upon] using h
theorem not_upon {k : ByteArray} {p : PR} (h : cmpS p.k k < 0) : upon k p = false := by
  have := cmpS_swap p.k k
  simp only [upon, decide_eq_false_iff_not]
  omega
theorem self_below {k : ByteArray} {p : PR} (h : p.k = k) : below k p = false ∧ upon k p = false := by
  subst h
  simp [below, upon, cmpS_self]
theorem setF_eq {l : List PR} {r : RR} (hs : sortedL l = true) (hm : mayR r = true) : setF l r = setS l r := by
  obtain ⟨A, M, B, hl, hA, h1, h2, h3⟩ := rise_split ((sorted_iff l).1 hs).2 r.k
  have fA : l.filter (below r.k) = A := by
    rw [hl, List.filter_append, List.filter_append, filter_all (fun p hp => below_of (h1 p hp)), filter_none (l := B) (fun p hp => not_below (h2 p hp))]
    rcases h3 with ⟨rfl, _⟩ | ⟨q, rfl, hq, _⟩
    · simp
    · rw [filter_none (l := [q]) (fun p hp => by simp at hp; subst hp; exact (self_below hq).1)]; simp
  have fB : l.filter (upon r.k) = B := by
    rw [hl, List.filter_append, List.filter_append, filter_none (l := A) (fun p hp => not_upon (h1 p hp)), filter_all (l := B) (fun p hp => upon_of (h2 p hp))]
    rcases h3 with ⟨rfl, _⟩ | ⟨q, rfl, hq, _⟩
    · simp
    · rw [filter_none (l := [q]) (fun p hp => by simp at hp; subst hp; exact (self_below hq).2)]; simp
  unfold setS setF
  rw [fA, fB, hs, hm, ← hA]
  simp only [if_true]
  unfold newP
  rcases h3 with ⟨rfl, h4⟩ | ⟨q, rfl, hq, h4⟩
  · rw [← hA] at h4
    rw [h4, hl]
    cases r.gone <;> simp
  · rw [← hA] at h4
    rw [h4, hl]
    cases r.gone
    · simp only [if_true]
      rw [List.append_assoc, List.set_append_right _ _ (Nat.le_refl _)]
      simp
    · simp only [if_true]
      rw [List.append_assoc, List.eraseIdx_append_of_length_le (Nat.le_refl _)]
      simp
theorem rise_setS {l : List PR} (h : Rise l) (r : RR) : Rise (setS l r) := by
  unfold setS Rise newP
  have hlow : ∀ p ∈ l.filter (below r.k), cmpS p.k r.k < 0 := fun p hp => by simpa [below] using (List.mem_filter.1 hp).2
  have hup : ∀ p ∈ l.filter (upon r.k), cmpS r.k p.k < 0 := fun p hp => by simpa [upon] using (List.mem_filter.1 hp).2
  rw [List.pairwise_append, List.pairwise_append]
  refine ⟨⟨h.filter _, by cases r.gone <;> simp, ?_⟩, h.filter _, ?_⟩
  · intro a ha b hb
    cases hg : r.gone
    · rw [hg] at hb
      simp at hb
      subst hb
      exact hlow a ha
    · rw [hg] at hb; simp at hb
  · intro a ha b hb
    rcases List.mem_append.1 ha with ha | ha
    · exact cmpS_trans (hlow a ha) (hup b hb)
    · cases hg : r.gone
      · rw [hg] at ha
        simp at ha
        subst ha
        exact hup b hb
      · rw [hg] at ha; simp at ha
theorem mem_setS {l : List PR} {r : RR} {p : PR} : p ∈ setS l r ↔ (p ∈ l ∧ p.k ≠ r.k) ∨ (r.gone = false ∧ p = ⟨r.k, r.v⟩) := by
  unfold setS newP
  simp only [List.mem_append, List.mem_filter, below, upon, decide_eq_true_eq]
  have h1 := cmpS_swap p.k r.k
  have h2 := cmpS_eq p.k r.k
  constructor
  · rintro ((⟨h, h3⟩ | h) | ⟨h, h3⟩)
    · exact .inl ⟨h, fun e => by rw [h2.2 e] at h3; omega⟩
    · cases hg : r.gone
      · rw [hg] at h
        simp at h
        exact .inr ⟨rfl, h⟩
      · rw [hg] at h; simp at h
    · exact .inl ⟨h, fun e => by have := h2.2 e; omega⟩
  · rintro (⟨h, h3⟩ | ⟨hg, h⟩)
    · have h4 : cmpS p.k r.k ≠ 0 := fun e => h3 (h2.1 e)
      rcases (by omega : cmpS p.k r.k < 0 ∨ cmpS r.k p.k < 0) with h5 | h5
      · exact .inl (.inl ⟨h, h5⟩)
      · exact .inr ⟨h, h5⟩
    · rw [hg]
      exact .inl (.inr (by simp [h]))
theorem okP_new {r : RR} (hm : mayR r = true) (hg : r.gone = false) : okP ⟨r.k, r.v⟩ = true := by
  unfold okP
  obtain ⟨k, g, v⟩ := r
  simp only at hg
  subst hg
  exact hm
theorem sorted_setS {l : List PR} {r : RR} (hs : sortedL l = true) (hm : mayR r = true) : sortedL (setS l r) = true := by
  have := (sorted_iff l).1 hs
  rw [sorted_iff]
  refine ⟨fun p hp => ?_, rise_setS this.2 r⟩
  rcases mem_setS.1 hp with ⟨h, _⟩ | ⟨hg, rfl⟩
  · exact this.1 p h
  · exact okP_new hm hg
/-- Rising pairs of the same members are the same. -/
theorem rise_ext : ∀ {l m : List PR}, Rise l → Rise m → (∀ p, p ∈ l ↔ p ∈ m) → l = m
  | [], [], _, _, _ => rfl
  | [], b :: m, _, _, h => by have := (h b).2 (by simp); simp at this
  | a :: l, [], _, _, h => by have := (h a).1 (by simp); simp at this
  | a :: l, b :: m, h1, h2, h => by
    unfold Rise at h1 h2
    rw [List.pairwise_cons] at h1 h2
    have hab : a = b := by
      rcases List.mem_cons.1 ((h a).1 (by simp)) with e | e
      · exact e
      · rcases List.mem_cons.1 ((h b).2 (by simp)) with e' | e'
        · exact e'.symm
        · have h3 := h1.1 b e'
          have h4 := h2.1 a e
          have := cmpS_swap a.k b.k
          omega
    subst hab
    have : l = m := by
      refine rise_ext h1.2 h2.2 fun p => ?_
      constructor
      · intro hp
        rcases List.mem_cons.1 ((h p).1 (by simp [hp])) with e | e
        · subst e
          have := h1.1 p hp
          rw [cmpS_self] at this
          omega
        · exact e
      · intro hp
        rcases List.mem_cons.1 ((h p).2 (by simp [hp])) with e | e
        · subst e
          have := h2.1 p hp
          rw [cmpS_self] at this
          omega
        · exact e
    rw [this]
/-- Records that may be, one over the other. -/
theorem fold_may : ∀ (L : List RR) (l : List PR), sortedL l = true → (∀ r ∈ L, mayR r = true) → sortedL (L.foldl setF l) = true ∧ L.foldl setF l = L.foldl setS l
  | [], l, h, _ => ⟨h, rfl⟩
  | r :: L, l, h, hm => by
    have h1 := hm r (by simp)
    have e := setF_eq h h1
    have h2 := fold_may L (setS l r) (sorted_setS h h1) (fun q hq => hm q (by simp [hq]))
    rw [List.foldl_cons, List.foldl_cons, e]
    exact h2
theorem sorted_nil : sortedL [] = true := rfl
theorem ofF_may {L : List RR} (hm : ∀ r ∈ L, mayR r = true) : sortedL (ofF L) = true ∧ ofF L = L.foldl setS [] := fold_may L [] sorted_nil hm
end Go.Proofs.Ytjokghnlmaaejaa
