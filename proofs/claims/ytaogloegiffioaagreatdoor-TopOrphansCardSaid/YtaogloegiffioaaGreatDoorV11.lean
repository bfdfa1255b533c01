import Derived.Test.YtaogloegiffioaaGreatDoorV1
set_option linter.all false
namespace Go.Proofs.YtaogloegiffioaaGreatDoor.V
open Go.RowKit
def Sb (w : World) (B : Nat) (v : Value) (l : List Bool) : Prop := Sv w B 1 v l.length (tv l)
theorem Sb.at_ {w : World} {B : Nat} {a : Option Addr} {m cap : Nat} {l : List Bool} (h : Sb w B (.slice a m cap) l) (k : Nat) (hk : k < l.length) : ∃ b off, a = some ⟨b, off, none⟩ ∧ b < B ∧ w.cell? ⟨b, off + k, none⟩ = some (.bool l[k]) := by
  obtain ⟨b, off, e, hb, hc⟩ := Sv.at_ h (by simp [tv]; omega)
  refine ⟨b, off, e, hb, ?_⟩
  rw [hc k (by simpa [tv] using hk)]
  simp [tv]
theorem tv_one (l : List Bool) : ∀ u ∈ tv l, u.oneCell' = true := by
  intro u hu
  simp only [tv, List.mem_map] at hu
  obtain ⟨c, _, rfl⟩ := hu
  rfl
theorem info4 : (Tryz.prog.info? 4).map (fun i => (i.zero, i.size, i.bytes)) = some (some (.bool false), 1, 1) := by kernel_rfl
def st (at_ : Int) (free : List Bool) : Nat → List (Int × Int) × Nat
  | 0 => ([], 0)
  | k + 1 => if free[k]? = some true then ((st at_ free k).1, (st at_ free k).2 + 1) else if (st at_ free k).2 = 0 then ((st at_ free k).1, 0) else ((st at_ free k).1 ++ [(at_ + (k : Int) - ((st at_ free k).2 : Int), ((st at_ free k).2 : Int))], 0)
def spansK (at_ : Int) (free : List Bool) (k : Nat) : List (Int × Int) :=
  (st at_ free k).1 ++ if (st at_ free k).2 = 0 then [] else [(at_ + (k : Int) - ((st at_ free k).2 : Int), ((st at_ free k).2 : Int))]
def spans (at_ : Int) (free : List Bool) : List (Int × Int) := spansK at_ free free.length
def spCells (l : List (Int × Int)) : List Value := (l.map fun s => [Value.int .i64 s.1, Value.int .i64 s.2]).flatten
theorem spCells_app (a b : List (Int × Int)) : spCells (a ++ b) = spCells a ++ spCells b := by simp [spCells]
theorem spCells_len : ∀ l : List (Int × Int), (spCells l).length = l.length * 2
  | [] => rfl
  | s :: l => by
    have := spCells_len l
    simp only [spCells, List.map_cons, List.flatten_cons, List.length_append, List.length_cons, List.length_nil] at *
    omega
theorem st_le (at_ : Int) (free : List Bool) : ∀ k, (st at_ free k).1.length + (st at_ free k).2 ≤ k
  | 0 => by simp [st]
  | k + 1 => by
    have := st_le at_ free k
    unfold st
    split
    · simp only; omega
    · split
      · simp only; omega
      · simp only [List.length_append, List.length_cons, List.length_nil]; omega
theorem spansK_le (at_ : Int) (free : List Bool) (k : Nat) : (spansK at_ free k).length ≤ k := by
  have := st_le at_ free k
  unfold spansK
  split
  · simp; omega
  · simp; omega
theorem st_prev (at_ : Int) (free : List Bool) (k : Nat) (hk : k < free.length) : decide (0 < (st at_ free (k + 1)).2) = free[k] := by
  rw [st]
  cases h : free[k]
  · have : free[k]? = some false := by rw [List.getElem?_eq_getElem hk, h]
    rw [this]
    simp
    split <;> rfl
  · have : free[k]? = some true := by rw [List.getElem?_eq_getElem hk, h]
    rw [this]
    simp
theorem spans_skip (at_ : Int) (free : List Bool) (k : Nat) (hk : free[k]? = some false) : spansK at_ free (k + 1) = spansK at_ free k := by
  unfold spansK
  rw [st, hk]
  by_cases h : (st at_ free k).2 = 0
  · simp [h]
  · simp [h]
theorem spans_bump (at_ : Int) (free : List Bool) (k : Nat) (hk : free[k]? = some true) (hp : 0 < (st at_ free k).2) :
    spCells (spansK at_ free (k + 1)) = (spCells (spansK at_ free k)).set (((spansK at_ free k).length - 1) * 2 + 1) (.int .i64 (((st at_ free k).2 : Int) + 1)) ∧
    (spCells (spansK at_ free k))[((spansK at_ free k).length - 1) * 2 + 1]? = some (.int .i64 ((st at_ free k).2 : Int)) ∧
    (spansK at_ free (k + 1)).length = (spansK at_ free k).length ∧ 0 < (spansK at_ free k).length := by
  unfold spansK
  rw [st, hk]
  have hp' : (st at_ free k).2 ≠ 0 := by omega
  simp only [if_true, hp', if_false, spCells_app]
  have e : ∀ x y : Int, spCells [(x, y)] = [Value.int .i64 x, Value.int .i64 y] := fun _ _ => rfl
  rw [if_neg (by omega)]
  simp only [e, List.length_append, List.length_cons, List.length_nil, Nat.add_sub_cancel, Nat.zero_add]
  have hl := spCells_len (st at_ free k).1
  rw [← hl]
  refine ⟨?_, ?_, trivial, by omega⟩
  · rw [List.set_append_right _ _ (by omega), show (spCells (st at_ free k).1).length + 1 - (spCells (st at_ free k).1).length = 1 by omega]
    simp
    omega
  · rw [List.getElem?_append_right (by omega), show (spCells (st at_ free k).1).length + 1 - (spCells (st at_ free k).1).length = 1 by omega]
    rfl
theorem spans_new (at_ : Int) (free : List Bool) (k : Nat) (hk : free[k]? = some true) (hp : (st at_ free k).2 = 0) :
    spansK at_ free (k + 1) = spansK at_ free k ++ [(at_ + (k : Int), 1)] := by
  unfold spansK
  rw [st, hk]
  simp [hp]
  omega
theorem own_form {w : World} {base : Nat} {e : TypeId} {size : Nat} {v : Value} {n : Nat} {xs : List Value} (h : w.ownsRow base e size v n xs) : ∃ a cap, v = .slice a n cap := by
  obtain ⟨_, ⟨rfl, rfl⟩ | ⟨g, cap, cur, rfl, _⟩⟩ := h
  · exact ⟨_, _, rfl⟩
  · exact ⟨_, _, rfl⟩
structure RoomR (w : World) (p o : Nat) (v : Value) (at_ : Int) (free : List Bool) : Prop where
  c0 : w.cell? ⟨p, o, none⟩ = some (.int .i64 at_)
  c1 : w.cell? ⟨p, o + 1, none⟩ = some v
  hp : p < w.heap.size
  row : Sb w w.heap.size v free
  lo : 0 ≤ at_
  hi : at_ ≤ 1000000
  len : free.length ≤ 2048
theorem info163 : (Tryz.prog.info? 163).map (fun i => (i.zero, i.size, i.bytes)) = some (some (.agg #[.int .i64 0, .int .i64 0]), 2, 16) := by kernel_rfl
theorem und160 : Tryz.prog.underlying 160 = some (.slice 163) := by kernel_rfl
theorem wpList_app2 {P : Program} {w : World} {ops : Array Oper} {rest : List Oper} {o : Oper} {a : Act} {Q : Exit → Act → World → Prop} (s x : Operand) (t : TypeId)
    (hgd : o.guard = none) (ho : o.op = .call { callee := .builtin .append, args := #[s, x], argTypes := #[t, t] })
    (base : Nat) (e : TypeId) (z : Value) (bytes : Nat) (ht : P.underlying t = some (.slice e)) (hinfo : (P.info? e).map (fun i => (i.zero, i.size, i.bytes)) = some (some z, 2, bytes)) (hzs : z.cells.size = 2)
    (v : Value) (n : Nat) (xs : List Value) (hs : a.eval s = v) (hown : w.ownsRow base e 2 v n xs)
    (b c : Nat) (u1 u2 : Value) (hx : a.eval x = .slice (some ⟨b, 0, none⟩) 1 c) (hb : Bl w b e [u1, u2]) (h1 : u1.oneCell' = true ∧ u2.oneCell' = true)
    (h63 : n + 1 ≤ maxLen) (hbytes : (n + 1) * bytes ≤ 140737488355328) (hbase : base ≤ w.heap.size)
    (h : ∀ v' w', w'.ownsRow base e 2 v' (n + 1) (xs ++ [u1, u2]) → w.grownBy w' v.ownBlock → wpList P ops Q rest (a.put o.dst v') w') : wpList P ops Q (o :: rest) a w := by
  obtain ⟨i, hi, hz, hsize, hby⟩ := info_parts hinfo
  refine wpList_append_own w hgd s x t ho base e i z 2 bytes ht hi hz hsize hby hzs (by decide) v n xs hs hown _ 1 c [u1, u2] hx rfl ?_ ?_ h63 hbytes hbase (fun v' w' a1 a2 _ => h v' w' a1 a2)
  · intro j u hj
    rw [add_at, Nat.zero_add, hb.cell]
    exact hj
  · intro u hu
    simp at hu
    rcases hu with rfl | rfl
    · exact h1.1
    · exact h1.2
set_option maxHeartbeats 1000000 in
theorem spans_c (w : World) (p o : Nat) (v : Value) (at_ : Int) (free : List Bool) (h : RoomR w p o v at_ free) :
    Calls Tryz.prog 87 #[.pointer (some ⟨p, o, none⟩)] w fun e w' => (∃ v', e = .returned v' ∧ w'.ownsRow w.heap.size 163 2 v' (spans at_ free).length (spCells (spans at_ free)) ∧ (spans at_ free = [] → v' = .slice none 0 0)) ∧ Below w.heap.size w w' := by
  obtain ⟨a, cap, rfl, _⟩ := h.row.form
  have c0 : w.cell? ⟨p, o, none⟩ = some (.int .i64 at_) := h.c0
  have c1 : w.cell? ⟨p, o + 1, none⟩ = some (.slice a free.length cap) := h.c1
  have hp := h.hp
  have hlen := h.len
  have hlo := h.lo
  have hhi := h.hi
  have H := Lib.hid h
  clear h
  go_enter Tryz.func87, Tryz.ntmps87
  go_wp2_with (fail)
  go_loopg [3, 4, 5, 13, 28, 31] free.length (fun q u3 _ _ i _ _ wr => ∃ k : Nat, k + q = free.length ∧ i = .int .i64 (k : Int) ∧ wr.ownsRow w.heap.size 163 2 u3 (spansK at_ free k).length (spCells (spansK at_ free k)) ∧ Below w.heap.size w wr ∧ (spansK at_ free k = [] → u3 = .slice none 0 0))
  case atStart => exact ⟨0, by omega, rfl, ⟨rfl, .inl ⟨rfl, rfl⟩⟩, Below.refl _ _, fun _ => rfl⟩
  case round =>
    obtain ⟨k, hk, rfl, own, bel, hnil⟩ := hrel
    have NIL := Lib.hid hnil
    clear hnil
    by_cases hlt : k < free.length
    · have i4 : (k : Int) < (free.length : Int) := by omega
      obtain ⟨b, off, rfl, hb, c2⟩ := H.out.row.at_ k hlt
      have d0 := (bel.cell (p := ⟨p, o, none⟩) hp).trans c0
      have d1 := (bel.cell (p := ⟨p, o + 1, none⟩) hp).trans c1
      have d2 := (bel.cell (p := ⟨b, off + k, none⟩) hb).trans c2
      have hq : free[k]? = some free[k] := List.getElem?_eq_getElem hlt
      have hle := spansK_le at_ free k
      have hws := bel.size
      clear c0 c1 c2
      cases hf : free[k]
      · rw [hf] at d2 hq
        have hsk := spans_skip at_ free k hq
        have OWN := Lib.hid own
        have BEL := Lib.hid bel
        have HSK := Lib.hid hsk
        clear hsk own bel hq hf
        go_wp2_with (fail)
        go_roundg (free.length - (k + 1))
        case measure => omega
        case rel => exact ⟨k + 1, by omega, by go_num, by rw [HSK.out]; exact OWN.out, BEL.out, by rw [HSK.out]; exact NIL.out⟩
      · rw [hf] at d2 hq
        have hst := st_le at_ free k
        have hprev : 0 < k → wr.cell? ⟨b, off + (k - 1), none⟩ = some (.bool (decide (0 < (st at_ free k).2))) := by
          intro hj
          obtain ⟨j, rfl⟩ : ∃ j, k = j + 1 := ⟨k - 1, by omega⟩
          rw [st_prev at_ free j (by omega), show j + 1 - 1 = j by omega]
          obtain ⟨b', off', e', _, c3⟩ := H.out.row.at_ j (by omega)
          cases e'
          exact (bel.cell (p := ⟨b, off + j, none⟩) hb).trans c3
        rcases Nat.eq_zero_or_pos (st at_ free k).2 with hm | hm
        · have hsn := spans_new at_ free k hq hm
          have hlen' : (spansK at_ free (k + 1)).length = (spansK at_ free k).length + 1 := by rw [hsn]; simp
          have hcel : spCells (spansK at_ free (k + 1)) = spCells (spansK at_ free k) ++ [.int .i64 (at_ + (k : Int)), .int .i64 1] := by rw [hsn, spCells_app]; rfl
          rw [hm] at hprev
          generalize hS' : spansK at_ free (k + 1) = S' at *
          generalize spansK at_ free k = S at *
          have OWN := Lib.hid own
          have BEL := Lib.hid bel
          have HL := Lib.hid hlen'
          have HC := Lib.hid hcel
          have HS := Lib.hid hS'
          clear own bel hq hf hsn hlen' hcel hm hst hS'
          rcases Nat.eq_zero_or_pos k with h0 | h0
          · have d3 : decide (0 < (k : Int)) = false := by simp; omega
            have h1 : k < 1 := by omega
            clear hprev h0
            go_wp2_with (at_builtin; refine wpList_app2 (.tmp 18) (.tmp 26) 160 rfl rfl w.heap.size 163 (.agg #[.int .i64 0, .int .i64 0]) 16 und160 info163 rfl _ S.length (spCells S) rfl (OWN.out.alloc _) wr.heap.size 1 _ _ rfl (Bl.new _ _ _) ⟨rfl, rfl⟩ (by unfold maxLen; omega) (by omega) (by simp; omega) ?_)
            intro v3 w3 own3 g3
            have O3 := Lib.hid own3
            have B3 := Lib.hid ((BEL.out.alloc hws (.cells #[.int .i64 (at_ + (k : Int)), .int .i64 1] 163)).grown g3 (by simp; omega) (fun q hq => own_ge OWN.out hq (Nat.le_refl _)))
            clear own3 g3
            go_wp2_with (fail)
            go_roundg (free.length - (k + 1))
            case measure => omega
            case rel => exact ⟨k + 1, by omega, by go_num, by rw [HS.out, HL.out, HC.out]; exact O3.out, B3.out, fun h => by rw [HS.out] at h; have := HL.out; rw [h] at this; cases this⟩
          · have d3 : decide (0 < (k : Int)) = true := by simp; omega
            have d4 := hprev h0
            rw [show decide (0 < 0) = false from rfl] at d4
            clear hprev
            go_wp2_with (at_builtin; refine wpList_app2 (.tmp 18) (.tmp 26) 160 rfl rfl w.heap.size 163 (.agg #[.int .i64 0, .int .i64 0]) 16 und160 info163 rfl _ S.length (spCells S) rfl (OWN.out.alloc _) wr.heap.size 1 _ _ rfl (Bl.new _ _ _) ⟨rfl, rfl⟩ (by unfold maxLen; omega) (by omega) (by simp; omega) ?_)
            intro v3 w3 own3 g3
            have O3 := Lib.hid own3
            have B3 := Lib.hid ((BEL.out.alloc hws (.cells #[.int .i64 (at_ + (k : Int)), .int .i64 1] 163)).grown g3 (by simp; omega) (fun q hq => own_ge OWN.out hq (Nat.le_refl _)))
            clear own3 g3
            go_wp2_with (fail)
            go_roundg (free.length - (k + 1))
            case measure => omega
            case rel => exact ⟨k + 1, by omega, by go_num, by rw [HS.out, HL.out, HC.out]; exact O3.out, B3.out, fun h => by rw [HS.out] at h; have := HL.out; rw [h] at this; cases this⟩
        · obtain ⟨hcel, hget, hlen', hpos⟩ := spans_bump at_ free k hq hm
          have hk0 : 0 < k := by omega
          have d4 := hprev hk0
          have d3 : decide (0 < (k : Int)) = true := by simp; omega
          rw [show decide (0 < (st at_ free k).2) = true by simpa using hm] at d4
          have hmk : (st at_ free k).2 ≤ k := by omega
          generalize hS' : spansK at_ free (k + 1) = S' at *
          generalize spansK at_ free k = S at *
          generalize (st at_ free k).2 = m at *
          obtain ⟨a3, c3, rfl⟩ : ∃ a3 c3, u3 = .slice a3 S.length c3 := own_form own
          have own' := own
          obtain ⟨_, ⟨_, h0⟩ | ⟨g, cap3, cur, e1, hg, _⟩⟩ := own'
          · omega
          injection e1 with e1 e2 e3
          subst e1 e3
          have c5 := own.cellAt ((S.length - 1) * 2 + 1) (by omega)
          rw [hget] at c5
          have f5 := own.frozenAt ((S.length - 1) * 2 + 1)
          have hst2 := (own.stored ((S.length - 1) * 2 + 1) (.int .i64 ((m : Int) + 1))).1
          rw [← hcel] at hst2
          have OWN := Lib.hid own
          have HST := Lib.hid hst2
          have BEL := Lib.hid (bel.setCell (p := ⟨g, (S.length - 1) * 2 + 1, none⟩) hg (.int .i64 ((m : Int) + 1)))
          have HL := Lib.hid hlen'
          have HS := Lib.hid hS'
          clear own bel hq hf hlen' hcel hm hst hS' hprev hst2 hget
          go_wp2_with (fail)
          go_roundg (free.length - (k + 1))
          case measure => omega
          case rel => exact ⟨k + 1, by omega, by go_num, by rw [HS.out, HL.out]; exact HST.out, BEL.out, fun h => by rw [HS.out] at h; have := HL.out; rw [h] at this; simp at this; omega⟩
    · have e : k = free.length := by omega
      subst e
      have i5 : ((free.length : Nat) : Int) < (free.length : Int) ↔ False := by simp
      have OWN := Lib.hid own
      have BEL := Lib.hid bel
      clear own bel
      go_wp2_with (fail)
      go_ret
      exact ⟨⟨_, rfl, OWN.out, NIL.out⟩, BEL.out⟩
end Go.Proofs.YtaogloegiffioaaGreatDoor.V
