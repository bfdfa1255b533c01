import Derived.Test.YtaogloegiffioaaGreatDoorV0
set_option linter.all false
namespace Go.Proofs.YtaogloegiffioaaGreatDoor.V
open Go.RowKit
theorem run_load_seg {P : Program} {w : World} {b off m : Nat} {t ty : TypeId} {cs : List Value} {d : TypeDesc} (h : Bl w b t cs)
    (hu : P.underlying ty = some d) (hd : (match d with | .struct _ | .array _ _ => true | _ => false) = true) (hi : (P.info? ty).map (·.size) = some m) (hm : off + m ≤ cs.length) :
    (loadVar ty ⟨b, off, none⟩).run P w = .ok (.agg ((cs.drop off).take m).toArray) w := by
  have hlen : ((cs.drop off).take m).length = m := by simp; omega
  have hl : (loadCells ⟨b, off, none⟩ m).run P w = .ok ((cs.drop off).take m).toArray w := by
    have := run_loadCells_list (P := P) w ⟨b, off, none⟩ ((cs.drop off).take m) (fun j v hv => by
      rw [add_at, h.cell]
      rw [List.getElem?_take] at hv
      split at hv
      · rw [← hv, List.getElem?_drop]
      · cases hv)
    rw [hlen] at this
    exact this
  cases hq : P.info? ty with
  | none => simp [hq] at hi
  | some i =>
    have hs : i.size = m := by simpa [hq] using hi
    have hagg : (isAgg ty).run P w = .ok true w := by
      unfold isAgg
      rw [Sem.run_bind, run_underlying hu w]
      cases d <;> simp_all
    simp [loadVar, Sem.run_bind, hagg, sizeOf, typeInfo, hq, hs, hl]
theorem run_store_seg {P : Program} {w : World} {b off m : Nat} {t ty : TypeId} {cs vs : List Value} (h : Bl w b t cs)
    (hi : (P.info? ty).map (·.size) = some m) (hvs : vs.length = m) (hm : off + m ≤ cs.length) (h1 : ∀ v ∈ vs, v.oneCell' = true) (v : Value) (hv : v.cells = vs.toArray) :
    (storeVar ty ⟨b, off, none⟩ v).run P w = .ok () (w.setRow b (splice cs off vs).toArray) := by
  have hst := run_storeCells_at P b off t vs 0 cs.toArray w h (by simp; omega) h1
  cases hq : P.info? ty with
  | none => simp [hq] at hi
  | some i =>
    have hs : i.size = m := by simpa [hq] using hi
    simp [storeVar, Sem.run_bind, sizeOf, typeInfo, hq, hs, hv, hvs, hst, splice]
theorem Bl.setRow {w : World} {b : Nat} {t : TypeId} {cs : List Value} (h : Bl w b t cs) (ds : List Value) : Bl (w.setRow b ds.toArray) b t ds := setRow_heap w b _ _ t _ h
theorem Fr.setRow {S : List Nat} {a w : World} (h : Fr S a w) {b : Nat} (hb : b ∈ S) (ds : Array Value) : Fr S a (w.setRow b ds) :=
  h.trans ⟨rfl, rfl, rfl, by simp, fun k _ hs => setRow_other w b k ds (fun e => hs (e ▸ hb))⟩
section
variable {P : Program} {ops : Array Oper} {rest : List Oper} {o : Oper} {a : Act} {w : World} {Q : Exit → Act → World → Prop}
theorem wpList_load_seg (ty : TypeId) (x : Operand) (hgd : o.guard = none) (ho : o.op = .load ty x) (b off m : Nat) (t : TypeId) (cs : List Value) (d : TypeDesc)
    (hx : a.eval x = .pointer (some ⟨b, off, none⟩)) (h : Bl w b t cs)
    (hu : P.underlying ty = some d) (hd : (match d with | .struct _ | .array _ _ => true | _ => false) = true) (hi : (P.info? ty).map (·.size) = some m) (hm : off + m ≤ cs.length)
    (hK : wpList P ops Q rest (a.put o.dst (.agg ((cs.drop off).take m).toArray)) w) : wpList P ops Q (o :: rest) a w :=
  wpList_plain hgd fun _ hK' => by
    unfold Oper.wp execOp
    simp only [ho, hx, Instr.loadAt, Instr.sureAddr, Sem.run_bind, Sem.run_pure, Result.andThen_ok, run_load_seg h hu hd hi hm]
    exact hK' _ _ hK
theorem wpStill_load_seg {Q' : Act → Prop} (ty : TypeId) (x : Operand) (hgd : o.guard = none) (ho : o.op = .load ty x) (b off m : Nat) (t : TypeId) (cs : List Value) (d : TypeDesc)
    (hx : a.eval x = .pointer (some ⟨b, off, none⟩)) (h : Bl w b t cs)
    (hu : P.underlying ty = some d) (hd : (match d with | .struct _ | .array _ _ => true | _ => false) = true) (hi : (P.info? ty).map (·.size) = some m) (hm : off + m ≤ cs.length)
    (hK : wpStill P ops w Q' rest (a.put o.dst (.agg ((cs.drop off).take m).toArray))) : wpStill P ops w Q' (o :: rest) a :=
  wpStill_step fun _ hK' => by
    simp only [Region.wanted, hgd, if_true]
    unfold Oper.still execOp
    simp only [ho, hx, Instr.loadAt, Instr.sureAddr, Sem.run_bind, Sem.run_pure, Result.andThen_ok, run_load_seg h hu hd hi hm]
    exact ⟨rfl, hK' _ hK⟩
theorem wpList_store_seg (ty : TypeId) (x y : Operand) (hgd : o.guard = none) (ho : o.op = .store ty x y) (b off m : Nat) (t : TypeId) (cs vs : List Value)
    (hx : a.eval x = .pointer (some ⟨b, off, none⟩)) (v : Value) (hy : a.eval y = v) (hv : v.cells = vs.toArray) (h : Bl w b t cs)
    (hi : (P.info? ty).map (·.size) = some m) (hvs : vs.length = m) (hm : off + m ≤ cs.length) (h1 : ∀ v ∈ vs, v.oneCell' = true)
    (hK : wpList P ops Q rest (a.put o.dst undef) (w.setRow b (splice cs off vs).toArray)) : wpList P ops Q (o :: rest) a w :=
  wpList_plain hgd fun _ hK' => by
    unfold Oper.wp execOp
    simp only [ho, hx, hy, Instr.storeAt, Instr.sureAddr, Sem.run_bind, Sem.run_pure, Result.andThen_ok, run_store_seg h hi hvs hm h1 v hv]
    exact hK' _ _ hK
theorem wpList_alloc_seg (ty : TypeId) (hgd : o.guard = none) (ho : o.op = .alloc ty) (zs : List Value) (hz : (P.info? ty).map (·.zero) = some (some (.agg zs.toArray)))
    (hK : wpList P ops Q rest (a.put o.dst (.pointer (some ⟨w.heap.size, 0, none⟩))) (w.alloc (.cells zs.toArray ty))) : wpList P ops Q (o :: rest) a w :=
  wpList_plain hgd fun _ hK' => by
    cases hq : P.info? ty with
    | none => simp [hq] at hz
    | some i =>
      have hs : i.zero = some (.agg zs.toArray) := by simpa [hq] using hz
      unfold Oper.wp execOp
      simp [ho, Instr.alloc, zeroValue, typeInfo, hq, hs, newVar, newRow, Value.cells, Result.andThen]
      exact hK' _ _ hK
theorem wpList_copy_seg (d s : Operand) (dT sT : TypeId) (hgd : o.guard = none)
    (ho : o.op = .call { callee := .builtin .copy, args := #[d, s], argTypes := #[dT, sT] }) (elem : TypeId) (hu : P.underlying dT = some (.slice elem)) (hsz : (P.info? elem).map (·.size) = some 1)
    (b off dLen dCap : Nat) (t : TypeId) (cs : List Value) (hd : a.eval d = .slice (some ⟨b, off, none⟩) dLen dCap) (h : Bl w b t cs)
    (sv : Value) (B n : Nat) (vs : List Value) (hs : a.eval s = sv) (hsv : Sv w B 1 sv n vs) (h1 : ∀ v ∈ vs, v.oneCell' = true) (hfit : off + dLen ≤ cs.length)
    (hK : ∀ w', Bl w' b t (splice cs off (vs.take dLen)) → Fr [b] w w' → wpList P ops Q rest (a.put o.dst (goInt (Nat.min n dLen))) w') : wpList P ops Q (o :: rest) a w := by
  obtain ⟨hl, _, oa, c, rfl, _, _, hN, hc⟩ := hsv
  rw [Nat.mul_one] at hl
  by_cases h0 : Nat.min n dLen = 0
  · refine wpList_copy_nothing hgd d s dT sT ho elem hu hsz _ _ _ _ _ _ hd hs h0 ?_
    have := hK w (by
      have e : vs.take dLen = [] := by
        apply List.eq_nil_of_length_eq_zero
        rw [List.length_take, hl, Nat.min_comm]; exact h0
      rw [e]
      simpa [splice] using h) (Fr.refl _ _)
    rwa [h0] at this
  · rcases hc with rfl | ⟨b', off', rfl, _, hc⟩
    · simp at hl
      subst hl
      simp at h0
    · have e : (vs.take dLen).length = Nat.min n dLen := by rw [List.length_take, hl, Nat.min_comm]
      refine wpList_copy_own hgd d s dT sT ho elem hu hsz b off dLen dCap _ n c hd hs cs.toArray t h (vs.take dLen) e ?_ ?_ (fun v hv => h1 v (List.mem_of_mem_take hv)) ?_
      · intro j u hj
        rw [add_at]
        obtain ⟨hj1, hj2⟩ := List.getElem?_eq_some_iff.1 hj
        rw [hc j (by simp at hj1; omega), ← hj2]
        simp
      · rw [e]
        simp
        have h2 : Nat.min n dLen ≤ dLen := Nat.min_le_right n dLen
        omega
      · rw [e]
        have hrow : (cs.toArray.toList.take off ++ (vs.take dLen ++ cs.toArray.toList.drop (off + Nat.min n dLen))).toArray = (splice cs off (vs.take dLen)).toArray := by
          simp only [splice, e]
        rw [hrow]
        exact hK _ (h.setRow _) ((Fr.refl _ _).setRow (by simp) _)
end
structure Sec where
  now : List UInt8
  lasts : List UInt8
  loose : Bool
def Sec.Ok (s : Sec) : Prop := s.now.length = 64 ∧ s.lasts.length = 64
def Sec.cells (s : Sec) : List Value := bv s.now ++ bv s.lasts ++ [.bool s.loose]
theorem Sec.cells_len {s : Sec} (h : s.Ok) : s.cells.length = 129 := by simp [Sec.cells, bv, h.1, h.2]
def secCells (l : List Sec) : List Value := (l.map Sec.cells).flatten
theorem secCells_len : ∀ (l : List Sec), (∀ s ∈ l, s.Ok) → (secCells l).length = l.length * 129
  | [], _ => rfl
  | s :: l, h => by
    have := secCells_len l fun x hx => h x (by simp [hx])
    have h2 := Sec.cells_len (h s (by simp))
    simp only [secCells, List.map_cons, List.flatten_cons, List.length_append, List.length_cons] at *
    omega
theorem secCells_app (a b : List Sec) : secCells (a ++ b) = secCells a ++ secCells b := by simp [secCells]
theorem secCells_at (l : List Sec) (h : ∀ s ∈ l, s.Ok) (i : Nat) (hi : i < l.length) : secCells l = secCells (l.take i) ++ (l[i].cells ++ secCells (l.drop (i + 1))) ∧ (secCells (l.take i)).length = i * 129 := by
  constructor
  · conv => lhs; rw [← List.take_append_drop i l, List.drop_eq_getElem_cons hi, secCells_app]
    rfl
  · rw [secCells_len _ fun s hs => h s (List.mem_of_mem_take hs), List.length_take]
    congr 1
    omega
theorem secCells_get (l : List Sec) (h : ∀ s ∈ l, s.Ok) (i : Nat) (hi : i < l.length) (j : Nat) (hj : j < 129) : (secCells l)[i * 129 + j]? = (l[i].cells)[j]? := by
  obtain ⟨e, e2⟩ := secCells_at l h i hi
  rw [e, List.getElem?_append_right (by omega), e2, List.getElem?_append_left (by rw [Sec.cells_len (h _ (List.getElem_mem hi))]; omega)]
  congr 1
  omega
theorem secCells_seg (l : List Sec) (h : ∀ s ∈ l, s.Ok) (i : Nat) (hi : i < l.length) (j m : Nat) (hj : j + m ≤ 129) : ((secCells l).drop (i * 129 + j)).take m = ((l[i].cells).drop j).take m := by
  have hc := Sec.cells_len (h _ (List.getElem_mem hi))
  apply List.ext_getElem?
  intro k
  rw [List.getElem?_take, List.getElem?_take]
  split
  · rw [List.getElem?_drop, List.getElem?_drop, Nat.add_assoc, secCells_get l h i hi _ (by omega)]
  · rfl
theorem secCells_splice (l : List Sec) (h : ∀ s ∈ l, s.Ok) (i : Nat) (hi : i < l.length) (j : Nat) (vs : List Value) (hj : j + vs.length ≤ 129) (s' : Sec) (hs : splice l[i].cells j vs = s'.cells) :
    splice (secCells l) (i * 129 + j) vs = secCells (l.set i s') := by
  obtain ⟨e, e2⟩ := secCells_at l h i hi
  have hc := Sec.cells_len (h _ (List.getElem_mem hi))
  rw [List.set_eq_take_append_cons_drop, if_pos hi, secCells_app]
  show _ = secCells (l.take i) ++ (s'.cells ++ secCells (l.drop (i + 1)))
  rw [← hs]
  unfold splice
  rw [e, List.take_append, List.drop_append, e2, List.take_of_length_le (by omega), show i * 129 + j - i * 129 = j by omega, List.take_append_of_le_length (by omega),
    List.drop_of_length_le (by omega), List.nil_append, show i * 129 + j + vs.length - i * 129 = j + vs.length by omega, List.drop_append_of_le_length (by omega)]
  simp only [List.append_assoc]
theorem cells_one (s : Sec) : ∀ v ∈ s.cells, v.oneCell' = true := by
  intro v hv
  simp only [Sec.cells, List.mem_append, List.mem_singleton] at hv
  rcases hv with (hv | hv) | rfl
  · exact bv_one _ _ hv
  · exact bv_one _ _ hv
  · rfl
end Go.Proofs.YtaogloegiffioaaGreatDoor.V
