import Derived.Test.YtjokghnlmaaejaaK2
namespace Go.Proofs.Ytjokghnlmaaejaa
open Go.RowKit
/-! ### JudgeOrder: the plain law -/
def keyN (k : Nat) : ByteArray := ⟨#[UInt8.ofNat (97 + k)]⟩
def recN (k : Nat) : RR := ⟨keyN k, false, ⟨1, (k : Int), ⟨#[]⟩⟩⟩
def pairN (k : Nat) : PR := ⟨keyN k, ⟨1, (k : Int), ⟨#[]⟩⟩⟩
/-- The keys of the second row after `k` rounds. -/
def seqB (n s : Nat) : Nat → List Nat
  | 0 => []
  | k + 1 => seqB n s k ++ (if k * s % 31 < n then [k * s % 31] else [])
theorem seqB_len (n s : Nat) : ∀ k, (seqB n s k).length ≤ k
  | 0 => by simp [seqB]
  | k + 1 => by
    have := seqB_len n s k
    rw [seqB, List.length_append]
    split <;> simp <;> omega
theorem seqB_lt (n s : Nat) : ∀ k, ∀ j ∈ seqB n s k, j < n
  | 0, j, h => by simp [seqB] at h
  | k + 1, j, h => by
    rw [seqB, List.mem_append] at h
    rcases h with h | h
    · exact seqB_lt n s k j h
    · split at h
      · simp at h; omega
      · simp at h
/-- The keys from the last on, `k` of them. -/
def revN (n k : Nat) : List Nat := (List.range k).map fun i => n - 1 - i
theorem may_recN : ∀ k, k < 31 → mayR (recN k) = true := by decide +kernel
theorem cmp_keyN : ∀ j, j < 31 → ∀ k, k < 31 → (cmpS (keyN j) (keyN k) < 0 ↔ j < k) := by decide +kernel
theorem keyN_inj {j k : Nat} (hj : j < 31) (hk : k < 31) (h : keyN j = keyN k) : j = k := by
  have h1 := cmp_keyN j hj k hk
  have h2 := cmp_keyN k hk j hj
  rw [h] at h1 h2
  rw [cmpS_self] at h1 h2
  omega
theorem mem_fold : ∀ (M : List Nat), (∀ k ∈ M, k < 31) → ∀ (l : List PR) (p : PR), p ∈ (M.map recN).foldl setS l ↔ (∃ k ∈ M, p = pairN k) ∨ (p ∈ l ∧ ∀ k ∈ M, p.k ≠ keyN k)
  | [], _, l, p => by simp
  | k :: M, hM, l, p => by
    have hk := hM k (by simp)
    have hM' : ∀ j ∈ M, j < 31 := fun j hj => hM j (by simp [hj])
    rw [List.map_cons, List.foldl_cons, mem_fold M hM']
    have hms : p ∈ setS l (recN k) ↔ (p ∈ l ∧ p.k ≠ keyN k) ∨ p = pairN k := by
      rw [mem_setS]
      simp [recN, pairN]
    rw [hms]
    constructor
    · rintro (⟨j, hj, rfl⟩ | ⟨⟨h1, h2⟩ | rfl, h3⟩)
      · exact .inl ⟨j, by simp [hj], rfl⟩
      · refine .inr ⟨h1, fun j hj => ?_⟩
        rcases List.mem_cons.1 hj with rfl | hj
        · exact h2
        · exact h3 j hj
      · exact .inl ⟨k, by simp, rfl⟩
    · rintro (⟨j, hj, rfl⟩ | ⟨h1, h2⟩)
      · rcases List.mem_cons.1 hj with rfl | hj
        · by_cases hin : j ∈ M
          · exact .inl ⟨j, hin, rfl⟩
          · refine .inr ⟨.inr rfl, fun i hi e => hin ?_⟩
            have : j = i := keyN_inj hk (hM' i hi) e
            rw [this]; exact hi
        · exact .inl ⟨j, hj, rfl⟩
      · exact .inr ⟨.inl ⟨h1, h2 k (by simp)⟩, fun j hj => h2 j (by simp [hj])⟩
theorem rise_pairs {n : Nat} (hn : n ≤ 31) : Rise ((List.range n).map pairN) := by
  unfold Rise
  rw [List.pairwise_map]
  have h := List.pairwise_lt_range (n := n)
  rw [List.pairwise_iff_getElem] at h ⊢
  intro i j hi hj hij
  have h1 := h i j hi hj hij
  simp only [List.length_range] at hi hj
  simp only [List.getElem_range] at h1 ⊢
  exact (cmp_keyN i (by omega) j (by omega)).2 h1
theorem order_eq {n : Nat} (hn : n ≤ 30) {M : List Nat} (h1 : ∀ k ∈ M, k < n) (h2 : ∀ k, k < n → k ∈ M) : ofF (M.map recN) = (List.range n).map pairN ∧ sortedL (ofF (M.map recN)) = true := by
  have hm : ∀ r ∈ M.map recN, mayR r = true := by
    intro r hr
    obtain ⟨k, hk, rfl⟩ := List.mem_map.1 hr
    exact may_recN k (by have := h1 k hk; omega)
  obtain ⟨h3, h4⟩ := ofF_may hm
  refine ⟨?_, h3⟩
  refine rise_ext ((sorted_iff _).1 h3).2 (rise_pairs (by omega)) fun p => ?_
  rw [h4, mem_fold M (fun k hk => by have := h1 k hk; omega)]
  constructor
  · rintro (⟨k, hk, rfl⟩ | ⟨h, _⟩)
    · exact List.mem_map.2 ⟨k, List.mem_range.2 (h1 k hk), rfl⟩
    · simp at h
  · intro hp
    obtain ⟨k, hk, rfl⟩ := List.mem_map.1 hp
    exact .inl ⟨k, h2 k (List.mem_range.1 hk), rfl⟩
theorem order_a {n : Nat} (hn : n ≤ 30) : ofF ((List.range n).map recN) = (List.range n).map pairN := (order_eq hn (fun _ hk => List.mem_range.1 hk) (fun _ hk => List.mem_range.2 hk)).1
theorem order_b {n : Nat} (hn : n ≤ 30) (s : Nat) : ofF ((seqB n s n ++ revN n n).map recN) = (List.range n).map pairN ∧ sortedL ((List.range n).map pairN) = true := by
  have h := order_eq hn (M := seqB n s n ++ revN n n) (fun k hk => by
    rcases List.mem_append.1 hk with h | h
    · exact seqB_lt n s n k h
    · obtain ⟨i, hi, rfl⟩ := List.mem_map.1 h
      have := List.mem_range.1 hi
      omega) (fun k hk => List.mem_append.2 (.inr (List.mem_map.2 ⟨n - 1 - k, List.mem_range.2 (by omega), by omega⟩)))
  exact ⟨h.1, h.1 ▸ h.2⟩
end Go.Proofs.Ytjokghnlmaaejaa
