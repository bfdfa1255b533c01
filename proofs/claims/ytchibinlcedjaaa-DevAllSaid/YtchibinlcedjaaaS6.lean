import Derived.Test.YtchibinlcedjaaaS5
namespace Go.Proofs.Ytchibinlcedjaaa
open Go.RowKit
/-! ### a sector that holds a text -/
def body (n : Nat) (l : List UInt8) : List UInt8 := be 8 n ++ (UInt8.ofNat l.length :: (l ++ List.replicate (51 - l.length) 0))
def img (n : Nat) (l : List UInt8) : List UInt8 := be 4 (crc 0#32 (body n l)).toNat ++ body n l
theorem body_len (n : Nat) (l : List UInt8) (h : l.length ≤ 51) : (body n l).length = 60 := by simp [body, be_len]; omega
theorem img_len (n : Nat) (l : List UInt8) (h : l.length ≤ 51) : (img n l).length = 64 := by simp [img, be_len, body_len n l h]
/-- At block `s` stands what keeps a text on two sectors of the device at `p`. -/
structure SupAt (w : World) (s p : Nat) (at_ slot turn : Int) (tv : Value) (l : List UInt8) : Prop where
  head : Bl w s 73 [.pointer (some ⟨p, 0, none⟩), .int .i64 at_, .int .i64 slot, .int .i64 turn, tv]
  text : w.ownsRow 0 5 1 tv l.length (bv l)
theorem turn_c (w : World) (s p : Nat) (at_ slot turn : Int) (tv : Value) (l : List UInt8) (h : SupAt w s p at_ slot turn tv l) :
    Calls Try.prog 35 #[.pointer (some ⟨s, 0, none⟩)] w fun e w' => e = .returned (.int .i64 turn) ∧ w = w' := by
  have c3 : w.cell? ⟨s, 3, none⟩ = some (.int .i64 turn) := h.head.cell 3
  clear h
  go_enter Try.func35, Try.ntmps35
  go_wp2
  go_ret
  exact ⟨rfl, rfl⟩
theorem turn_nil (w : World) : Calls Try.prog 35 #[.pointer none] w fun e w' => e = .returned (.int .i64 0) ∧ w = w' := by
  go_enter Try.func35, Try.ntmps35
  go_wp2
  go_ret
  exact ⟨rfl, rfl⟩
theorem text_nil (w : World) : Calls Try.prog 34 #[.pointer none] w fun e w' => e = .returned (.slice none 0 0) ∧ w = w' := by
  go_enter Try.func34, Try.ntmps34
  go_wp2_with (fail)
  go_ret
  exact ⟨rfl, rfl⟩
theorem own_zero {w : World} {base : Nat} {e : TypeId} {size : Nat} {v : Value} {n : Nat} {xs : List Value} (h : w.ownsRow base e size v n xs) : w.ownsRow 0 e size v n xs := by
  obtain ⟨h1, h2 | ⟨g, cap, cur, h3, _, h4⟩⟩ := h
  · exact ⟨h1, .inl h2⟩
  · exact ⟨h1, .inr ⟨g, cap, cur, h3, Nat.zero_le _, h4⟩⟩
theorem clone_nil (w : World) (n c : Nat) : Calls Try.prog 39 #[.slice none n c] w fun e w' => e = .returned (.slice none 0 0) ∧ w = w' := by
  have hne := Lib.run_eql_slice_nil (P := Try.prog)
  go_enter Try.func39, Try.ntmps39
  go_wp2_with (fail)
  go_ret
  exact ⟨rfl, rfl⟩
theorem clone_any (w : World) (v : Value) (l : List UInt8) (h : Sl w w.heap.size v l) (hl : l.length ≤ 1000) :
    Calls Try.prog 39 #[v] w fun e w' => (∃ v', e = .returned v' ∧ w'.ownsRow 0 5 1 v' l.length (bv l)) ∧ Below w.heap.size w w' := by
  obtain ⟨a, cap, rfl, _⟩ := Sv.form h
  rcases a with _ | ad
  · have h0 : l = [] := by
      rcases Nat.eq_zero_or_pos l.length with h1 | h1
      · exact List.eq_nil_of_length_eq_zero h1
      · obtain ⟨_, _, e, _⟩ := Sv.at_ h (by rw [bv_len]; exact h1)
        cases e
    subst h0
    exact (clone_nil w _ _).mono fun e w' ⟨h1, h2⟩ => ⟨⟨_, h1, rfl, .inl ⟨rfl, rfl⟩⟩, h2 ▸ Below.refl _ _⟩
  · exact (clone_c w w.heap.size ad l.length cap l h hl (Nat.le_refl _)).mono fun e w' ⟨⟨g, c, h1, h2⟩, h3⟩ => ⟨⟨_, h1, own_zero h2⟩, h3⟩
theorem text_c (w : World) (s p : Nat) (at_ slot turn : Int) (tv : Value) (l : List UInt8) (h : SupAt w s p at_ slot turn tv l) (hl : l.length ≤ 1000) :
    Calls Try.prog 34 #[.pointer (some ⟨s, 0, none⟩)] w fun e w' => (∃ v', e = .returned v' ∧ w'.ownsRow 0 5 1 v' l.length (bv l)) ∧ Below w.heap.size w w' := by
  have c4 : w.cell? ⟨s, 4, none⟩ = some tv := h.head.cell 4
  have HC := Lib.hid (clone_any w tv l (Sl.of_own h.text) hl)
  clear h
  go_enter Try.func34, Try.ntmps34
  go_wp2_with (fail)
  refine HC.out.mono ?_
  rintro e w' ⟨⟨v', rfl, own⟩, bel⟩
  have O := Lib.hid own
  have B := Lib.hid bel
  clear own bel
  go_wp2_with (fail)
  go_ret
  exact ⟨⟨_, rfl, O.out⟩, B.out⟩
end Go.Proofs.Ytchibinlcedjaaa
