import Derived.Test.YtchibinlcedjaaaS6
namespace Go.Proofs.Ytchibinlcedjaaa
open Go.RowKit
/-! ### the sector that is written -/
theorem putIn_all (X : List UInt8) (off m n : Nat) : putIn X off m n m = X.take off ++ (be m n ++ X.drop (off + m)) := by
  simp [putIn]
def img1 (n : Nat) : List UInt8 := List.replicate 4 0 ++ (be 8 n ++ List.replicate 52 0)
def img2 (n : Nat) (c : UInt8) : List UInt8 := List.replicate 4 0 ++ (be 8 n ++ (c :: List.replicate 51 0))
def img3 (n : Nat) (l : List UInt8) : List UInt8 := List.replicate 4 0 ++ body n l
theorem img1_put (n : Nat) : putIn (List.replicate 64 0) 4 8 n 8 = img1 n := by
  rw [putIn_all, img1, List.take_replicate, List.drop_replicate]
  rfl
theorem img1_len (n : Nat) : (img1 n).length = 64 := by simp [img1, be_len]
theorem img2_len (n : Nat) (c : UInt8) : (img2 n c).length = 64 := by simp [img2, be_len]
theorem img3_len (n : Nat) (l : List UInt8) (h : l.length ≤ 51) : (img3 n l).length = 64 := by simp [img3, body_len n l h]
theorem img2_set (n : Nat) (c : UInt8) : (img1 n).set 12 c = img2 n c := by
  have h : ∀ a b : List UInt8, (a ++ b).set a.length c = a ++ b.set 0 c := fun a b => by
    rw [List.set_append_right _ _ (Nat.le_refl _), Nat.sub_self]
  have e : img1 n = (List.replicate 4 0 ++ be 8 n) ++ List.replicate 52 0 := by rw [img1, List.append_assoc]
  have e2 : (List.replicate 4 (0 : UInt8) ++ be 8 n).length = 12 := by simp [be_len]
  have := h (List.replicate 4 0 ++ be 8 n) (List.replicate 52 0)
  rw [e2] at this
  rw [e, this, img2, List.append_assoc]
  rfl
theorem img3_splice (n : Nat) (l : List UInt8) (h : l.length ≤ 51) : splice (bv (img2 n (UInt8.ofNat l.length))) 13 ((bv l).take 51) = bv (img3 n l) := by
  have e0 : (bv l).take 51 = bv l := List.take_of_length_le (by rw [bv_len]; exact h)
  have e1 : img2 n (UInt8.ofNat l.length) = (List.replicate 4 0 ++ (be 8 n ++ [UInt8.ofNat l.length])) ++ List.replicate 51 0 := by simp [img2]
  have e2 : (bv (List.replicate 4 0 ++ (be 8 n ++ [UInt8.ofNat l.length]))).length = 13 := by rw [bv_len]; simp [be_len]
  have e3 : img3 n l = (List.replicate 4 0 ++ (be 8 n ++ [UInt8.ofNat l.length])) ++ (l ++ List.replicate (51 - l.length) 0) := by simp [img3, body]
  rw [e0, e1, e3]
  generalize List.replicate 4 0 ++ (be 8 n ++ [UInt8.ofNat l.length]) = P at *
  have e4 : bv (List.replicate 51 (0 : UInt8)) = List.replicate 51 (.int .u8 0) := by simp [bv]
  unfold splice
  rw [← bv_app, ← bv_app, List.take_append_of_le_length (by omega), List.take_of_length_le (by omega), List.drop_append, List.drop_of_length_le (by omega), e2, e4, ← bv_app, bv_len, List.drop_replicate]
  simp [bv]
theorem img_put (n k : Nat) (l : List UInt8) : putIn (img3 n l) 0 4 k 4 = be 4 k ++ body n l := by
  rw [putIn_all, img3]
  rfl
theorem img3_drop (n : Nat) (l : List UInt8) : (img3 n l).drop 4 = body n l := rfl
def DM.scode (D : DM) (i : Int) (im : List UInt8) : Int := if D.wcode i 64 = 0 then (if (D.writes i im).isDead then 7 else 0) else D.wcode i 64
def DM.swrite (D : DM) (i : Int) (im : List UInt8) : DM := if D.wcode i 64 = 0 then (D.writes i im).flushes else D.writes i im
def SupX (w : World) (s p : Nat) (at_ slot turn : Int) (l : List UInt8) : Prop := ∃ tv, SupAt w s p at_ slot turn tv l
def Wrote (w : World) (s p b : Nat) (at_ : Int) (D : DM) (x0 n0 : Int) (l0 : List UInt8) (x : Int) (n : Nat) (l : List UInt8) (e : Ending) (w' : World) : Prop :=
  e = .returned (.int .i64 (D.scode (at_ + x) (img n l))) ∧ DevAt w' p b (D.swrite (at_ + x) (img n l)) ∧
  (if D.scode (at_ + x) (img n l) = 0 then SupX w' s p at_ x n l else SupX w' s p at_ x0 n0 l0) ∧ Fr [s, p, b] w w'
theorem own_ne {w : World} {v : Value} {n : Nat} {xs cs : List Value} {b : Nat} {t : TypeId} (h : w.ownsRow 0 5 1 v n xs) (hb : Bl w b t cs) (ht : t ≠ 5) : v.ownBlock ≠ some b := by
  obtain ⟨_, ⟨rfl, _⟩ | ⟨g, cap, cur, rfl, _, hg, _⟩⟩ := h
  · intro e; cases e
  · intro e
    injection e with e
    change g = b at e
    subst e
    unfold Bl at hb
    rw [hb] at hg
    injection hg with hg
    injection hg with _ h2
    exact ht h2
end Go.Proofs.Ytchibinlcedjaaa
