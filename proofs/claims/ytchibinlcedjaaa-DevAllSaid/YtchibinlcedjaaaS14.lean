import Derived.Test.YtchibinlcedjaaaS13
namespace Go.Proofs.Ytchibinlcedjaaa
open Go.RowKit
/-! ### two sectors that hold a text -/
def Holds (X : List (List UInt8)) (a : Nat) (slot : Int) (turn : Nat) (text : List UInt8) : Prop :=
  1 ≤ turn ∧ turn ≤ 100000 ∧ text.length ≤ 40 ∧ ∃ other : Slot, slotOk other ∧ (∀ n l, other = some (n, l) → n < turn) ∧
    ((slot = 0 ∧ X[a]? = some (img turn text) ∧ X[a + 1]? = some (slotImg other)) ∨ (slot = 1 ∧ X[a + 1]? = some (img turn text) ∧ X[a]? = some (slotImg other)))
theorem Holds.slot {X : List (List UInt8)} {a : Nat} {slot : Int} {turn : Nat} {text : List UInt8} (h : Holds X a slot turn text) : 0 ≤ slot ∧ slot ≤ 1 := by
  obtain ⟨_, _, _, _, _, _, ⟨h, _⟩ | ⟨h, _⟩⟩ := h <;> omega
theorem Holds.len {X : List (List UInt8)} {a : Nat} {slot : Int} {turn : Nat} {text : List UInt8} (h : Holds X a slot turn text) : a + 1 < X.length := by
  obtain ⟨_, _, _, _, _, _, ⟨_, _, h⟩ | ⟨_, h, _⟩⟩ := h
  all_goals
    rcases Nat.lt_or_ge (a + 1) X.length with h1 | h1
    · exact h1
    · rw [List.getElem?_eq_none h1] at h; cases h
theorem Holds.make (X : List (List UInt8)) (a : Nat) (h : a + 1 < X.length) (l : List UInt8) (hl : l.length ≤ 40) : Holds (((X.set a zero64).set (a + 1) zero64).set a (img 1 l)) a 0 1 l := by
  refine ⟨by omega, by omega, hl, none, trivial, fun _ _ e => (by cases e), .inl ⟨rfl, ?_, ?_⟩⟩
  · rw [List.getElem?_set_self (by simp; omega)]
  · rw [List.getElem?_set_ne (by omega), List.getElem?_set_self (by simp; omega)]
    rfl
theorem Holds.save {X : List (List UInt8)} {a : Nat} {slot : Int} {turn : Nat} {text : List UInt8} (h : Holds X a slot turn text) (l : List UInt8) (hl : l.length ≤ 40) (ht : turn < 100000) :
    Holds (X.set ((a : Int) + (1 - slot)).toNat (img (turn + 1) l)) a (1 - slot) (turn + 1) l := by
  have hlen := h.len
  obtain ⟨h1, h2, h3, other, _, _, ⟨rfl, h6, h7⟩ | ⟨rfl, h6, h7⟩⟩ := h
  · refine ⟨by omega, by omega, hl, some (turn, text), ⟨h1, by omega, h3⟩, fun n l e => by injection e with e; injection e with e; omega, .inr ⟨by omega, ?_, ?_⟩⟩
    · rw [show ((a : Int) + (1 - 0)).toNat = a + 1 by omega, List.getElem?_set_self (by omega)]
    · rw [show ((a : Int) + (1 - 0)).toNat = a + 1 by omega, List.getElem?_set_ne (by omega)]
      exact h6
  · refine ⟨by omega, by omega, hl, some (turn, text), ⟨h1, by omega, h3⟩, fun n l e => by injection e with e; injection e with e; omega, .inl ⟨by omega, ?_, ?_⟩⟩
    · rw [show ((a : Int) + (1 - 1)).toNat = a by omega, List.getElem?_set_self (by omega)]
    · rw [show ((a : Int) + (1 - 1)).toNat = a by omega, List.getElem?_set_ne (by omega)]
      exact h6
theorem Holds.other {X : List (List UInt8)} {a : Nat} {slot : Int} {turn : Nat} {text : List UInt8} (h : Holds X a slot turn text) (i : Nat) (y : List UInt8) (h1 : i ≠ a) (h2 : i ≠ a + 1) : Holds (X.set i y) a slot turn text := by
  unfold Holds at *
  rw [List.getElem?_set_ne h1, List.getElem?_set_ne h2]
  exact h
theorem see_lt (t : St) (k n : Nat) (l : List UInt8) (h : t.turn < n) : t.see k (some (n, l)) = ⟨k, n, l⟩ := if_pos h
theorem see_ge (t : St) (k n : Nat) (l : List UInt8) (h : ¬ t.turn < n) : t.see k (some (n, l)) = t := if_neg h
theorem Holds.see {X : List (List UInt8)} {a : Nat} {slot : Int} {turn : Nat} {text : List UInt8} (h : Holds X a slot turn text) :
    ∃ o : Nat → Slot, (∀ k, slotOk (o k)) ∧ (∀ k, k < 2 → X[a + k]? = some (slotImg (o k))) ∧ stAt o 2 = ⟨slot, turn, text⟩ := by
  obtain ⟨h1, h2, h3, other, h4, h5, ⟨rfl, h6, h7⟩ | ⟨rfl, h6, h7⟩⟩ := h
  · refine ⟨fun k => if k = 0 then some (turn, text) else other, fun k => ?_, fun k hk => ?_, ?_⟩
    · by_cases hk : k = 0
      · simp only [hk, if_true]; exact ⟨h1, h2, h3⟩
      · simp only [hk, if_false]; exact h4
    · rcases (by omega : k = 0 ∨ k = 1) with rfl | rfl
      · exact h6
      · exact h7
    · show ((St.mk 0 0 []).see 0 (some (turn, text))).see 1 other = _
      rw [see_lt _ _ _ _ (by show 0 < turn; omega)]
      cases other with
      | none => rfl
      | some x =>
        obtain ⟨n, l⟩ := x
        have := h5 n l rfl
        rw [see_ge _ _ _ _ (by show ¬ turn < n; omega)]
        rfl
  · refine ⟨fun k => if k = 0 then other else some (turn, text), fun k => ?_, fun k hk => ?_, ?_⟩
    · by_cases hk : k = 0
      · simp only [hk, if_true]; exact h4
      · simp only [hk, if_false]; exact ⟨h1, h2, h3⟩
    · rcases (by omega : k = 0 ∨ k = 1) with rfl | rfl
      · exact h7
      · exact h6
    · show ((St.mk 0 0 []).see 0 other).see 1 (some (turn, text)) = _
      cases other with
      | none =>
        rw [see_lt _ _ _ _ (by show 0 < turn; omega)]
        rfl
      | some x =>
        obtain ⟨n, l⟩ := x
        have hn := h5 n l rfl
        have hn1 : 1 ≤ n := h4.1
        rw [see_lt _ 0 _ _ (by show 0 < n; omega), see_lt _ 1 _ _ (by show n < turn; omega)]
        rfl
/-! ### the contracts over a device all of whose sectors last -/
theorem clean_now (X : List (List UInt8)) (c : Nat) (i : Nat) (x : List UInt8) (h : X[i]? = some x) : ((clean X c).secs[i]?).map (·.now) = some x := by
  unfold clean
  simp only [List.getElem?_map, h]
  rfl
def Got (p : Nat) (at_ : Int) (slot : Int) (turn : Nat) (text : List UInt8) (B : Nat) (e : Ending) (w' : World) : Prop := ∃ s, e = .returned (.tuple #[.pointer (some ⟨s, 0, none⟩), .int .i64 0]) ∧ B ≤ s ∧ SupX w' s p at_ slot turn text
theorem open_any (w : World) (p b : Nat) (D : DM) (X : List (List UInt8)) (h : DevAt w p b D) (hD : D.secs.map (·.now) = X) (a : Nat) (slot : Int) (turn : Nat) (text : List UInt8) (hh : Holds X a slot turn text) :
    Calls Try.prog 31 #[.pointer (some ⟨p, 0, none⟩), .int .i64 (a : Int)] w fun e w' => Got p a slot turn text w.heap.size e w' ∧ Below w.heap.size w w' := by
  have hlen := hh.len
  obtain ⟨o, ho, hn, hs⟩ := hh.see
  have hXl : X.length = D.secs.length := by rw [← hD, List.length_map]
  refine (open_c w p b D h a (by omega) o ho fun k hk => ?_).mono ?_
  · rw [← hn k hk, ← hD, List.getElem?_map]
  · rintro e w' ⟨h1, h2⟩
    refine ⟨?_, h2⟩
    unfold Opened at h1
    rw [hs, if_neg (by have := hh.1; simp only; omega)] at h1
    exact h1
theorem open_none (w : World) (p b : Nat) (X : List (List UInt8)) (c : Nat) (h : DevAt w p b (clean X c)) (a : Nat) (h0 : X[a]? = some zero64) (h1 : X[a + 1]? = some zero64) :
    Calls Try.prog 31 #[.pointer (some ⟨p, 0, none⟩), .int .i64 (a : Int)] w fun e w' => e = .returned (.tuple #[.pointer none, .int .i64 8]) ∧ Below w.heap.size w w' := by
  have hlen : a + 1 < (clean X c).secs.length := by
    rcases Nat.lt_or_ge (a + 1) X.length with h2 | h2
    · simpa [clean] using h2
    · rw [List.getElem?_eq_none h2] at h1; cases h1
  refine (open_c w p b _ h a hlen (fun _ => none) (fun _ => trivial) fun k hk => ?_).mono ?_
  · rcases (by omega : k = 0 ∨ k = 1) with rfl | rfl
    · exact clean_now X c _ _ h0
    · exact clean_now X c _ _ h1
  · rintro e w' ⟨h1, h2⟩
    exact ⟨h1, h2⟩
theorem map_now (X : List (List UInt8)) (c : Nat) : (clean X c).secs.map (·.now) = X := by
  unfold clean
  simp only [List.map_map]
  exact List.map_id' X
def Saved (w : World) (s p b a : Nat) (X : List (List UInt8)) (c : Nat) (slot : Int) (turn : Nat) (l : List UInt8) (e : Ending) (w' : World) : Prop :=
  e = .returned (.int .i64 0) ∧ DevAt w' p b (clean (X.set ((a : Int) + (1 - slot)).toNat (img (turn + 1) l)) (c + 2)) ∧ SupX w' s p a (1 - slot) ((turn + 1 : Nat) : Int) l ∧ Fr [s, p, b] w w'
theorem save_k (w : World) (s p b : Nat) (X : List (List UInt8)) (hX : Full X) (c : Nat) (a : Nat) (x0 : Int) (n0 : Nat) (l0 : List UInt8) (hs : SupX w s p a x0 n0 l0) (hD : DevAt w p b (clean X c)) (hcl : c ≤ 1000) (ha : a + 1 < X.length)
    (hx0 : 0 ≤ x0) (hx1 : x0 ≤ 1) (hn : n0 ≤ 100000) (v : Value) (l : List UInt8) (hv : ∀ w', Fr [s, p, b] w w' → Sl w' w'.heap.size v l) (hl : l.length ≤ 40) :
    Calls Try.prog 33 #[.pointer (some ⟨s, 0, none⟩), v] w (Saved w s p b a X c x0 n0 l) := by
  have hXl : X.length ≤ 2048 := by have := hD.2.2.2.2.1; simpa [clean] using this
  obtain ⟨k1, k2⟩ := clean_swrite X hX c ((a : Int) + (1 - x0)) (by omega) (by omega) (img (n0 + 1) l) (img_len _ _ (by omega))
  refine (save_c w s p b _ (a : Int) x0 n0 l0 hs hD (by simp only [clean]; omega) (by omega) (by omega) hx0 hx1 hn v l hv hl).mono ?_
  rintro e w' ⟨h1, h2, h3, h4⟩
  rw [k1] at h1 h3
  rw [k2] at h2
  rw [if_pos rfl] at h3
  exact ⟨h1, h2, h3, h4⟩
def MadeX (w : World) (p b a : Nat) (X : List (List UInt8)) (c : Nat) (l : List UInt8) (e : Ending) (w' : World) : Prop :=
  Got p a 0 1 l w.heap.size e w' ∧ DevAt w' p b (clean (((X.set a zero64).set (a + 1) zero64).set a (img 1 l)) (c + 4)) ∧ Fr [p, b] w w'
theorem make_k (w : World) (p b : Nat) (X : List (List UInt8)) (hX : Full X) (c : Nat) (h : DevAt w p b (clean X c)) (hc : c ≤ 1000) (a : Nat) (h1 : a + 1 < X.length) (v : Value) (l : List UInt8) (hv : ∀ w', Fr [p, b] w w' → Sl w' w'.heap.size v l) (hl : l.length ≤ 40) :
    Calls Try.prog 30 #[.pointer (some ⟨p, 0, none⟩), .int .i64 (a : Int), v] w (MadeX w p b a X c l) := by
  have := make_c w p b X hX c h hc (a : Int) (by omega) (by omega) v l hv hl
  rw [Int.toNat_natCast, show ((a : Int) + 1).toNat = a + 1 by omega] at this
  exact this
theorem full_make {X : List (List UInt8)} (hX : Full X) (a : Nat) (l : List UInt8) (hl : l.length ≤ 40) : Full (((X.set a zero64).set (a + 1) zero64).set a (img 1 l)) :=
  ((hX.set a zero64_len).set (a + 1) zero64_len).set a (img_len 1 l (by omega))
end Go.Proofs.Ytchibinlcedjaaa
