import Derived.Test.YtchibinlcedjaaaS11
namespace Go.Proofs.Ytchibinlcedjaaa
open Go.RowKit
theorem open_nil (w : World) (at_ : Int) (hx : -9223372036854775808 ≤ at_ ∧ at_ ≤ 9223372036854775807) :
    Calls Try.prog 31 #[.pointer none, .int .i64 at_] w fun e w' => e = .returned (.tuple #[.pointer none, .int .i64 3]) ∧ w = w' := by
  have HT := Lib.hid (there_nil w at_ hx)
  go_enter Try.func31, Try.ntmps31
  go_wp2_with (go_at_call 40; refine (HT.out).mono ?_; rintro e w' ⟨rfl, rfl⟩)
  go_ret2
  exact ⟨rfl, rfl⟩
abbrev Slot := Option (Nat × List UInt8)
def slotImg : Slot → List UInt8
  | none => zero64
  | some (n, l) => img n l
def slotOk : Slot → Prop
  | none => True
  | some (n, l) => 1 ≤ n ∧ n ≤ 100000 ∧ l.length ≤ 40
structure St where
  slot : Int
  turn : Nat
  text : List UInt8
def St.see (t : St) (k : Nat) : Slot → St
  | none => t
  | some (n, l) => if t.turn < n then ⟨k, n, l⟩ else t
def stAt (o : Nat → Slot) : Nat → St
  | 0 => ⟨0, 0, []⟩
  | k + 1 => (stAt o k).see k (o k)
theorem Sl.sub {w : World} {B g n c : Nat} {l : List UInt8} (h : Sl w B (.slice (some ⟨g, 0, none⟩) n c) l) (a b m : Nat) (hab : a + m = b) (hb : b ≤ l.length) : Sl w B (.slice (some ⟨g, a, none⟩) m (c - a)) ((l.drop a).take m) := by
  obtain ⟨hl, hm, a', cap, e, h1, h2, hN, h3⟩ := h
  injection e with e1 e2 e3
  subst e1 e3
  have e : ((l.drop a).take m).length = m := by simp; omega
  unfold Sl
  rw [e]
  refine ⟨by rw [bv_len, e, Nat.mul_one], by omega, _, _, rfl, by omega, by omega, by simp, ?_⟩
  rcases h3 with h | ⟨b', off, e1, hb', hc⟩
  · left
    have : l = [] := by simpa [bv] using h
    subst this
    simp [bv]
  · refine .inr ⟨g, a, rfl, ?_, fun i hi => ?_⟩
    · injection e1 with e1; injection e1 with e1; subst e1; exact hb'
    · rw [bv_len, e] at hi
      injection e1 with e1
      injection e1 with e1 e2
      subst e1 e2
      have := hc (a + i) (by rw [bv_len]; omega)
      rw [Nat.zero_add] at this
      rw [this]
      simp [bv]
theorem img_take (n : Nat) (l : List UInt8) : (img n l).take 4 = be 4 (crc 0#32 (body n l)).toNat := by
  unfold img
  rw [List.take_append_of_le_length (by rw [be_len]; exact Nat.le_refl _), List.take_of_length_le (by rw [be_len]; exact Nat.le_refl _)]
theorem img_drop (n : Nat) (l : List UInt8) : (img n l).drop 4 = body n l := by
  unfold img
  have := List.drop_left (l₁ := be 4 (crc 0#32 (body n l)).toNat) (l₂ := body n l)
  rw [be_len] at this
  exact this
theorem img_turn (n : Nat) (l : List UInt8) : ((img n l).drop 4).take 8 = be 8 n := by
  rw [img_drop]
  unfold body
  rw [List.take_append_of_le_length (by rw [be_len]; exact Nat.le_refl _), List.take_of_length_le (by rw [be_len]; exact Nat.le_refl _)]
theorem body_drop (n : Nat) (l : List UInt8) : (body n l).drop 8 = UInt8.ofNat l.length :: (l ++ List.replicate (51 - l.length) 0) := by
  unfold body
  have := List.drop_left (l₁ := be 8 n) (l₂ := UInt8.ofNat l.length :: (l ++ List.replicate (51 - l.length) 0))
  rw [be_len] at this
  exact this
theorem img_at (n : Nat) (l : List UInt8) : (img n l)[12]? = some (UInt8.ofNat l.length) := by
  have h1 : (img n l)[12]? = ((img n l).drop 4)[8]? := by rw [List.getElem?_drop]
  have h2 : (body n l)[8]? = ((body n l).drop 8)[0]? := by rw [List.getElem?_drop]
  rw [h1, img_drop, h2, body_drop]
  rfl
theorem img_text (n : Nat) (l : List UInt8) : ((img n l).drop 13).take l.length = l := by
  have h1 : (img n l).drop 13 = (((img n l).drop 4).drop 8).drop 1 := by rw [List.drop_drop, List.drop_drop]
  rw [h1, img_drop, body_drop]
  simp
end Go.Proofs.Ytchibinlcedjaaa
