import Derived.Test.YtbkjiinnojnkhaaY7
namespace Go.Proofs.Ytbkjiinnojnkhaa
open Go.RowKit
/-! ### a slice of spans that is read -/
def Rd (w : World) (v : Value) (L : List (Int × Int)) : Prop :=
  ∃ a cap, v = .slice a L.length cap ∧ L.length ≤ cap ∧ cap ≤ maxLen ∧ (L ≠ [] → ∃ b off cs, a = some ⟨b, off, none⟩ ∧ Bl w b 30 cs ∧ ∀ i, i < L.length * 2 → cs[off + i]? = (spCells L)[i]?)
theorem Rd.fr {w w' : World} {v : Value} {L : List (Int × Int)} {S : List Nat} (h : Rd w v L) (f : Fr S w w') (hS : ∀ q ∈ S, ∃ qs, Bl w q 4 qs) : Rd w' v L := by
  obtain ⟨a, cap, e, h1, h2, h3⟩ := h
  refine ⟨a, cap, e, h1, h2, fun hne => ?_⟩
  obtain ⟨b, off, cs, e1, hb, hc⟩ := h3 hne
  refine ⟨b, off, cs, e1, hb.fr f fun hm => ?_, hc⟩
  obtain ⟨qs, hq⟩ := hS b hm
  exact hb.ne hq (by decide) rfl
theorem Rd.own {w : World} {base : Nat} {v : Value} {L : List (Int × Int)} (h : w.ownsRow base 30 2 v L.length (spCells L)) : Rd w v L := by
  obtain ⟨h0, ⟨rfl, h1⟩ | ⟨g, cap, cur, rfl, hg, hh, hn, hc, hs, ht⟩⟩ := h
  · have : L = [] := List.eq_nil_of_length_eq_zero h1
    subst this
    exact ⟨none, 0, rfl, Nat.le_refl _, by simp [maxLen], fun hne => absurd rfl hne⟩
  · refine ⟨_, cap, rfl, hn, hc, fun _ => ⟨g, 0, cur.toList, rfl, hh, fun i hi => ?_⟩⟩
    rw [← ht, List.getElem?_take, if_pos hi, Nat.zero_add]
theorem spCells_get (L : List (Int × Int)) (k : Nat) (hk : k < L.length) : (spCells L)[k * 2]? = some (.int .i64 L[k].1) ∧ (spCells L)[k * 2 + 1]? = some (.int .i64 L[k].2) := by
  have hsplit : L = L.take k ++ L[k] :: L.drop (k + 1) := by
    conv => lhs; rw [← List.take_append_drop k L, List.drop_eq_getElem_cons hk]
  have hc : spCells L = spCells (L.take k) ++ ([.int .i64 L[k].1, .int .i64 L[k].2] ++ spCells (L.drop (k + 1))) := by
    conv => lhs; rw [hsplit, spCells_app]
    rfl
  have hl := spCells_len (L.take k)
  rw [List.length_take, Nat.min_eq_left (by omega)] at hl
  constructor
  · rw [hc, List.getElem?_append_right (by omega), hl, Nat.sub_self]; rfl
  · rw [hc, List.getElem?_append_right (by omega), hl, show k * 2 + 1 - k * 2 = 1 by omega]; rfl
theorem spCells_take (L : List (Int × Int)) (k : Nat) : spCells (L.take k) = (spCells L).take (k * 2) := by
  rcases Nat.lt_or_ge L.length k with h | h
  · rw [List.take_of_length_le (by omega), List.take_of_length_le (by rw [spCells_len]; omega)]
  · conv => rhs; rw [← List.take_append_drop k L, spCells_app]
    have hl := spCells_len (L.take k)
    rw [List.length_take, Nat.min_eq_left h] at hl
    rw [List.take_left' hl]
theorem spCells_drop (L : List (Int × Int)) (k : Nat) : spCells (L.drop k) = (spCells L).drop (k * 2) := by
  rcases Nat.lt_or_ge L.length k with h | h
  · rw [List.drop_of_length_le (by omega), List.drop_of_length_le (by rw [spCells_len]; omega)]; rfl
  · conv => rhs; rw [← List.take_append_drop k L, spCells_app]
    have hl := spCells_len (L.take k)
    rw [List.length_take, Nat.min_eq_left h] at hl
    rw [List.drop_left' hl]
theorem spCells_one (L : List (Int × Int)) : ∀ u ∈ spCells L, u.oneCell' = true := by
  intro u hu
  simp only [spCells, List.mem_flatten, List.mem_map] at hu
  obtain ⟨l, ⟨s, _, rfl⟩, hu⟩ := hu
  simp at hu
  rcases hu with rfl | rfl <;> rfl
theorem step_append_nothing {P : Program} {ops : Array Oper} {o : Oper} {a : Act} {w : World} {K : Act → World → Prop} {Q : Exit → Act → World → Prop} {E : Prop}
    (hg : o.guard = none) (s x : Operand) (t : TypeId) (hop : o.op = Op.call { callee := Callee.builtin Builtin.append, args := #[s, x], argTypes := #[t, t] })
    (e : TypeId) (i : TypeInfo) (h1 : P.underlying t = some (.slice e)) (h2 : P.info? e = some i)
    (ao : Option Addr) (n cap : Nat) (hle : n ≤ cap) (hs : a.eval s = .slice ao n cap) (ax : Option Addr) (c : Nat) (hx : a.eval x = .slice ax 0 c) (hsrc : Src P i.size t (.slice ax 0 c) 0 [] w)
    (hK : K (a.put o.dst (.slice ao n cap)) w) :
    if Region.wanted o (yielded ops a.tmps) = true then Oper.wp P o a w K Q else E := by
  have hw : Region.wanted o (yielded ops a.tmps) = true := by simp [Region.wanted, hg]
  rw [if_pos hw]
  have hrun := run_append_nothing (P := P) w t t o.type e i h1 h2 ao n cap hle _ hsrc
  unfold Oper.wp
  simp [execOp, hop, resolve, invoke, builtin, hs, hx, hrun, Result.andThen]
  exact hK
theorem src_nil (w : World) (ax : Option Addr) (c : Nat) (m : Nat) : Src Try.prog m 37 (.slice ax 0 c) 0 [] w := by
  refine ⟨.inl ⟨30, und37⟩, fun w' => ?_, ?_, ?_, by simp, by simp⟩
  · simp [Builtin.lenOf]
  · cases ax <;> simp [Builtin.firstCells, loadCells, loadCellsFrom]
  · cases ax <;> simp [Builtin.firstCells, loadCells, loadCellsFrom]
theorem und37e : Try.prog.underlying 37 = some (.slice (Try.prog.elem 37)) := by kernel_rfl
theorem elem37 : Try.prog.elem 37 = 30 := by kernel_rfl
theorem run_head (b off k n cap : Nat) (hk : k ≤ cap) (W : World) : (Instr.slice 37 (.slice (some ⟨b, off, none⟩) n cap) none (some (.int .i64 (k : Int))) (some (.int .i64 (k : Int)))).run Try.prog W = .ok (.slice (some ⟨b, off, none⟩) k k) W := by
  obtain ⟨i0, hi, hz0, hz1, hz2⟩ := info_parts info30
  rw [run_slice_hm W 37 _ n cap und37e .i64 .i64 k k (by omega) (by omega) (by omega), elem37]
  simp [sizeOf, typeInfo, hi, hz1, sliced, Result.andThen, Addr.add]
theorem run_rest (b off k n cap : Nat) (hk : k < n) (hn : n ≤ cap) (W : World) : (Instr.slice 37 (.slice (some ⟨b, off, none⟩) n cap) (some (.int .i64 (k : Int))) none none).run Try.prog W = .ok (.slice (some ⟨b, off + k * 2, none⟩) (n - k) (cap - k)) W := by
  obtain ⟨i0, hi, hz0, hz1, hz2⟩ := info_parts info30
  rw [run_slice_l W 37 _ n cap und37e .i64 k (by omega) (by omega), elem37]
  simp [sizeOf, typeInfo, hi, hz1, sliced, Result.andThen, add_at]
  omega
theorem run_rest_nil (b off n cap : Nat) : ∃ ax, ∀ W, n ≤ cap → (Instr.slice 37 (.slice (some ⟨b, off, none⟩) n cap) (some (.int .i64 (n : Int))) none none).run Try.prog W = .ok (.slice ax 0 (cap - n)) W := by
  obtain ⟨i0, hi, hz0, hz1, hz2⟩ := info_parts info30
  refine ⟨if cap = n then some ⟨b, off, none⟩ else some (Addr.add ⟨b, off, none⟩ (n * 2)), fun W hle => ?_⟩
  rw [run_slice_l W 37 _ n cap und37e .i64 n (by omega) (by omega), elem37]
  simp [sizeOf, typeInfo, hi, hz1, sliced, Result.andThen]
theorem modn (x : Int) (n : Nat) (hn : 0 < n) : ∃ (y : Int) (k : Nat), x.tmod (n : Int) = y ∧ (-(n : Int) < y ∧ y < n) ∧ y % (n : Int) = (k : Int) ∧ (y + (n : Int)) % (n : Int) = (k : Int) ∧ (y + (n : Int)).tmod (n : Int) = (k : Int) ∧ k < n := by
  have h1 := Int.tmod_lt_of_pos x (show (0 : Int) < n by omega)
  have h2 := Int.lt_tmod_of_pos x (show (0 : Int) < n by omega)
  have h3 := Int.emod_nonneg (x.tmod (n : Int)) (show (n : Int) ≠ 0 by omega)
  have h4 := Int.emod_lt_of_pos (x.tmod (n : Int)) (show (0 : Int) < n by omega)
  refine ⟨_, (x.tmod (n : Int) % (n : Int)).toNat, rfl, ⟨h2, h1⟩, by omega, ?_, ?_, by omega⟩
  · rw [Int.add_emod_right]; omega
  · rw [Int.tmod_eq_emod_of_nonneg (by omega), Int.add_emod_right]; omega
end Go.Proofs.Ytbkjiinnojnkhaa
