import Derived.Test.YtchibinlcedjaaaU2
namespace Go.Proofs.Ytchibinlcedjaaa
open Go.RowKit
theorem img_put_all (l : List UInt8) (h : l.length = 64) (s : Sec) (hs : s.Ok) : s.put l = ⟨l, s.lasts, true⟩ := by
  have h1 : s.now.length = 64 := hs.1
  unfold Sec.put
  simp [List.drop_of_length_le (by omega : s.now.length ≤ l.length)]
theorem crash_law (x y : List UInt8) (hy : y.length = 64) (c : Nat) (kl : List Bool) (f : Int) (h0 : 0 ≤ f) :
    ∃ z, (((clean [x, zero64] c).fused f).swrite 1 y).crash kl = clean [x, z] 0 ∧
      ((((clean [x, zero64] c).fused f).scode 1 y = 0 ∧ z = y) ∨ (((clean [x, zero64] c).fused f).scode 1 y = 7 ∧ (z = zero64 ∨ z = y))) := by
  rcases (by omega : f = 0 ∨ f = 1 ∨ 2 ≤ f) with rfl | rfl | h2
  · refine ⟨zero64, ?_, .inr ⟨rfl, .inl rfl⟩⟩
    rfl
  · have hw : ((clean [x, zero64] c).fused 1).wcode 1 64 = 0 := rfl
    have hw' : ((clean [x, zero64] c).fused 1).wcode 1 y.length = 0 := by rw [hy]; rfl
    have e1 : ((clean [x, zero64] c).fused 1).writes 1 y = ⟨[cs x, ⟨y, zero64, true⟩], c + 1, true, 0, false⟩ := by
      unfold DM.writes
      rw [if_pos hw']
      have : (cs zero64).put y = ⟨y, zero64, true⟩ := img_put_all y hy (cs zero64) (cs_ok rfl)
      unfold DM.write
      show DM.mk [cs x, (cs zero64).put y] _ _ _ _ = _
      rw [this]
      rfl
    have e2 : ((clean [x, zero64] c).fused 1).swrite 1 y = ⟨[cs x, ⟨y, zero64, true⟩], c + 1, true, 0, false⟩ := by
      unfold DM.swrite
      rw [if_pos hw, e1]
      rfl
    have e3 : ((clean [x, zero64] c).fused 1).scode 1 y = 7 := by
      unfold DM.scode
      rw [if_pos hw, e1]
      rfl
    rw [e2, e3]
    cases hk : kl.getD 0 false
    · refine ⟨zero64, ?_, .inr ⟨rfl, .inl rfl⟩⟩
      have hk' : kl[0]?.getD false = false := by simpa using hk
      unfold DM.crash crashFrom crashFrom crashFrom Sec.fallen clean cs
      simp [hk']
    · refine ⟨y, ?_, .inr ⟨rfl, .inr rfl⟩⟩
      have hk' : kl[0]?.getD false = true := by simpa using hk
      unfold DM.crash crashFrom crashFrom crashFrom Sec.fallen clean cs
      simp [hk']
  · obtain ⟨m, rfl⟩ : ∃ m : Nat, f = (m : Int) + 2 := ⟨(f - 2).toNat, by omega⟩
    have ef : ((clean [x, zero64] c).fused ((m : Int) + 2)) = ⟨[cs x, cs zero64], c, true, m + 2, false⟩ := by
      unfold DM.fused clean
      simp [DM.isDead]
      refine ⟨by omega, by omega, by omega⟩
    rw [ef]
    have hw : DM.wcode ⟨[cs x, cs zero64], c, true, m + 2, false⟩ 1 64 = 0 := by simp [DM.wcode, DM.isDead]
    have hw' : DM.wcode ⟨[cs x, cs zero64], c, true, m + 2, false⟩ 1 y.length = 0 := by rw [hy]; exact hw
    have e1 : DM.writes ⟨[cs x, cs zero64], c, true, m + 2, false⟩ 1 y = ⟨[cs x, ⟨y, zero64, true⟩], c + 1, true, m + 1, false⟩ := by
      unfold DM.writes
      rw [if_pos hw']
      have : (cs zero64).put y = ⟨y, zero64, true⟩ := img_put_all y hy (cs zero64) (cs_ok rfl)
      unfold DM.write
      show DM.mk [cs x, (cs zero64).put y] _ _ _ _ = _
      rw [this]
      rfl
    have e2 : DM.swrite ⟨[cs x, cs zero64], c, true, m + 2, false⟩ 1 y = ⟨[cs x, cs y], c + 2, true, m, false⟩ := by
      unfold DM.swrite
      rw [if_pos hw, e1]
      unfold DM.flushes
      rw [if_neg (by simp [DM.isDead])]
      rfl
    have e3 : DM.scode ⟨[cs x, cs zero64], c, true, m + 2, false⟩ 1 y = 0 := by
      unfold DM.scode
      rw [if_pos hw, e1]
      simp [DM.isDead]
    rw [e2, e3]
    exact ⟨y, rfl, .inl ⟨rfl, rfl⟩⟩
theorem crash_holds (la lb z : List UInt8) (ha : la.length ≤ 40) (hb : lb.length ≤ 40) (hz : z = zero64 ∨ z = img 2 lb) :
    ∃ (x0 : Int) (n : Nat) (l : List UInt8), Holds [img 1 la, z] 0 x0 n l ∧ ((z = zero64 ∧ n = 1 ∧ l = la) ∨ (z = img 2 lb ∧ n = 2 ∧ l = lb)) := by
  rcases hz with rfl | rfl
  · exact ⟨0, 1, la, ⟨by decide, by decide, ha, none, trivial, fun _ _ e => (by cases e), .inl ⟨rfl, rfl, rfl⟩⟩, .inl ⟨rfl, rfl, rfl⟩⟩
  · exact ⟨1, 2, lb, ⟨by decide, by decide, hb, some (1, la), ⟨by decide, by decide, ha⟩, fun n l e => (by injection e with e; injection e with e; omega), .inr ⟨rfl, rfl, rfl⟩⟩, .inr ⟨rfl, rfl, rfl⟩⟩
end Go.Proofs.Ytchibinlcedjaaa
