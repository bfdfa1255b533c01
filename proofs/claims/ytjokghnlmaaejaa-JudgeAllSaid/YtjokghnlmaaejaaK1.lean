import Derived.Test.YtjokghnlmaaejaaJ4
namespace Go.Proofs.Ytjokghnlmaaejaa
open Go.RowKit
/-! ### the order of keys -/
theorem cb_cons (a b : UInt8) (s1 s2 : List UInt8) : Lib.compareBytes (a :: s1) (b :: s2) = if a < b then -1 else if b < a then 1 else Lib.compareBytes s1 s2 := by
  rw [Lib.compareBytes]
theorem cb_nil_cons (b : UInt8) (s2 : List UInt8) : Lib.compareBytes [] (b :: s2) = -1 := by rw [Lib.compareBytes]
theorem cb_cons_nil (b : UInt8) (s2 : List UInt8) : Lib.compareBytes (b :: s2) [] = 1 := by rw [Lib.compareBytes]
theorem cb_nil : Lib.compareBytes [] [] = 0 := by rw [Lib.compareBytes]
theorem cb_less : ∀ x y : List UInt8, Op.bytesLess x y = decide (Lib.compareBytes x y < 0)
  | [], [] => by rw [cb_nil]; rfl
  | [], b :: s2 => by rw [cb_nil_cons]; rfl
  | a :: s1, [] => by rw [cb_cons_nil]; rfl
  | a :: s1, b :: s2 => by
    have ih := cb_less s1 s2
    rw [cb_cons]
    simp only [Op.bytesLess]
    by_cases h : a < b
    · simp [h]
    · by_cases h2 : b < a
      · have h3 : ¬ a = b := by rintro rfl; exact h h2
        simp [h, h2, h3]
      · have h3 : a = b := by
          apply UInt8.toNat_inj.1
          rw [UInt8.lt_iff_toNat_lt] at h h2
          omega
        simp [h3, ih]
theorem cb_eq : ∀ x y : List UInt8, Lib.compareBytes x y = 0 ↔ x = y
  | [], [] => by simp [cb_nil]
  | [], b :: s2 => by simp [cb_nil_cons]
  | a :: s1, [] => by simp [cb_cons_nil]
  | a :: s1, b :: s2 => by
    have ih := cb_eq s1 s2
    rw [cb_cons]
    by_cases h : a < b
    · have h3 : ¬ a = b := by rintro rfl; rw [UInt8.lt_iff_toNat_lt] at h; omega
      simp [h, h3]
    · by_cases h2 : b < a
      · have h3 : ¬ a = b := by rintro rfl; exact h h2
        simp [h, h2, h3]
      · have h3 : a = b := by
          apply UInt8.toNat_inj.1
          rw [UInt8.lt_iff_toNat_lt] at h h2
          omega
        simp [h3, ih]
theorem cb_swap : ∀ x y : List UInt8, Lib.compareBytes y x = - Lib.compareBytes x y
  | [], [] => by simp [cb_nil]
  | [], b :: s2 => by simp [cb_nil_cons, cb_cons_nil]
  | a :: s1, [] => by simp [cb_nil_cons, cb_cons_nil]
  | a :: s1, b :: s2 => by
    have ih := cb_swap s1 s2
    rw [cb_cons, cb_cons]
    by_cases h : a < b
    · have h3 : ¬ b < a := by rw [UInt8.lt_iff_toNat_lt] at *; omega
      simp [h, h3]
    · by_cases h2 : b < a
      · simp [h, h2]
      · simp [h, h2, ih]
theorem cb_trans : ∀ x y z : List UInt8, Lib.compareBytes x y < 0 → Lib.compareBytes y z < 0 → Lib.compareBytes x z < 0
  | [], [], z, h, _ => by rw [cb_nil] at h; omega
  | [], _ :: _, [], _, h => by rw [cb_cons_nil] at h; omega
  | [], _ :: _, _ :: _, _, _ => by rw [cb_nil_cons]; omega
  | _ :: _, [], _, h, _ => by rw [cb_cons_nil] at h; omega
  | _ :: _, _ :: _, [], _, h => by rw [cb_cons_nil] at h; omega
  | a :: s1, b :: s2, c :: cs, h1, h2 => by
    have ih := cb_trans s1 s2 cs
    rw [cb_cons] at h1 h2 ⊢
    simp only [UInt8.lt_iff_toNat_lt] at h1 h2 ⊢
    by_cases e1 : a.toNat < b.toNat
    · by_cases e2 : b.toNat < c.toNat
      · rw [if_pos (by omega)]; omega
      · rw [if_neg e2] at h2
        by_cases e3 : c.toNat < b.toNat
        · rw [if_pos e3] at h2; omega
        · rw [if_pos (by omega)]; omega
    · rw [if_neg e1] at h1
      by_cases e4 : b.toNat < a.toNat
      · rw [if_pos e4] at h1; omega
      · rw [if_neg e4] at h1
        by_cases e2 : b.toNat < c.toNat
        · rw [if_pos (by omega)]; omega
        · rw [if_neg e2] at h2
          by_cases e3 : c.toNat < b.toNat
          · rw [if_pos e3] at h2; omega
          · rw [if_neg e3] at h2
            rw [if_neg (by omega), if_neg (by omega)]
            exact ih h1 h2
theorem lessB_eq (a b : ByteArray) : lessB a b = decide (cmpS a b < 0) := by
  unfold lessB cmpS
  rw [Lib.toList_data, Lib.toList_data, cb_less]
theorem cmpS_eq (a b : ByteArray) : cmpS a b = 0 ↔ a = b := by
  unfold cmpS
  rw [cb_eq]
  constructor
  · intro h
    exact ByteArray.ext (Array.toList_inj.1 h)
  · rintro rfl; rfl
theorem cmpS_swap (a b : ByteArray) : cmpS b a = - cmpS a b := cb_swap _ _
theorem cmpS_trans {a b c : ByteArray} (h1 : cmpS a b < 0) (h2 : cmpS b c < 0) : cmpS a c < 0 := cb_trans _ _ _ h1 h2
theorem cmpS_self (a : ByteArray) : cmpS a a = 0 := (cmpS_eq a a).2 rfl
/-- Rising keys. -/
def Rise (l : List PR) : Prop := l.Pairwise fun p q => cmpS p.k q.k < 0
theorem sorted_iff (l : List PR) : sortedL l = true ↔ (∀ p ∈ l, okP p = true) ∧ Rise l := by
  constructor
  · intro h
    unfold sortedL at h
    rw [List.all_eq_true] at h
    have h1 : ∀ i, i < l.length → okAt l i = true := fun i hi => h i (by simpa using hi)
    refine ⟨fun p hp => ?_, ?_⟩
    · obtain ⟨i, hi, rfl⟩ := List.getElem_of_mem hp
      cases hq : okP l[i]
      · have := okAt_not hi hq
        rw [h1 i hi] at this
        cases this
      · rfl
    · unfold Rise
      rw [List.pairwise_iff_getElem]
      intro i j hi hj hij
      induction j with
      | zero => omega
      | succ j ih =>
        have h2 := h1 (j + 1) hj
        rw [okAt_succ hj, lessB_eq] at h2
        simp only [Bool.and_eq_true, decide_eq_true_eq] at h2
        rcases (by omega : i < j ∨ i = j) with h3 | rfl
        · exact cmpS_trans (ih (by omega) h3) h2.2
        · exact h2.2
  · rintro ⟨h1, h2⟩
    refine sortedL_yes fun j hj => ?_
    cases j with
    | zero => rw [okAt_zero hj]; exact h1 _ (List.getElem_mem _)
    | succ j =>
      rw [okAt_succ hj, h1 _ (List.getElem_mem _), lessB_eq]
      simpa using (List.pairwise_iff_getElem.1 h2) j (j + 1) (by omega) hj (by omega)
theorem takeWhile_mono {α : Type} {p : α → Bool} : ∀ (l : List α), l.Pairwise (fun a b => p b = true → p a = true) → ∀ j (hj : j < l.length), p l[j] = true ↔ j < (l.takeWhile p).length
  | [], _, j, hj => by simp at hj
  | a :: l, h, 0, _ => by
    rw [List.takeWhile_cons]
    cases ha : p a <;> simp [ha]
  | a :: l, h, j + 1, hj => by
    rw [List.pairwise_cons] at h
    have hj' : j < l.length := by simpa using hj
    have ih := takeWhile_mono l h.2 j hj'
    rw [List.takeWhile_cons]
    cases ha : p a
    · have : p l[j] = false := by
        cases hq : p l[j]
        · rfl
        · have := h.1 _ (List.getElem_mem hj') hq
          rw [ha] at this; cases this
      simp [this]
    · simp [ih]
def below (k : ByteArray) (p : PR) : Bool := decide (cmpS p.k k < 0)
/-- How many keys stand ahead of one. -/
def lowI (l : List PR) (k : ByteArray) : Nat := (l.takeWhile (below k)).length
theorem lowI_le (l : List PR) (k : ByteArray) : lowI l k ≤ l.length := (List.takeWhile_prefix _).length_le
theorem lowI_iff {l : List PR} (h : Rise l) (k : ByteArray) (j : Nat) (hj : j < l.length) : cmpS l[j].k k < 0 ↔ j < lowI l k := by
  have := takeWhile_mono (p := below k) l (h.imp fun {a b} hab hb => by
    unfold below at *
    simp only [decide_eq_true_eq] at *
    exact cmpS_trans hab hb) j hj
  unfold lowI
  rw [← this]
  simp [below]
def hasAt (l : List PR) (i : Nat) (k : ByteArray) : Bool := match l[i]? with
  | some p => decide (cmpS p.k k = 0)
  | none => false
/-- What Set makes. -/
def setF (l : List PR) (r : RR) : List PR :=
  if sortedL l then
    if mayR r then
      if hasAt l (lowI l r.k) r.k then (if r.gone then l.eraseIdx (lowI l r.k) else l.set (lowI l r.k) ⟨r.k, r.v⟩)
      else (if r.gone then l else l.take (lowI l r.k) ++ ⟨r.k, r.v⟩ :: l.drop (lowI l r.k))
    else l
  else []
theorem setF_len (l : List PR) (r : RR) : (setF l r).length ≤ l.length + 1 := by
  have := lowI_le l r.k
  unfold setF
  repeat' split
  all_goals simp [List.length_eraseIdx]
  all_goals (try split) <;> omega
def ofF (l : List RR) : List PR := l.foldl setF []
end Go.Proofs.Ytjokghnlmaaejaa
