import Derived.Test.YtchibinlcedjaaaS9
namespace Go.Proofs.Ytchibinlcedjaaa
open Go.RowKit
/-! ### a device all of whose sectors last -/
def cs (x : List UInt8) : Sec := ⟨x, x, false⟩
def clean (X : List (List UInt8)) (c : Nat) : DM := ⟨X.map cs, c, false, 0, false⟩
def Full (X : List (List UInt8)) : Prop := ∀ x ∈ X, x.length = 64
theorem cs_ok {x : List UInt8} (h : x.length = 64) : (cs x).Ok := ⟨h, h⟩
theorem clean_ok {X : List (List UInt8)} (h : Full X) : ∀ s ∈ X.map cs, s.Ok := by
  intro s hs
  obtain ⟨x, hx, rfl⟩ := List.mem_map.1 hs
  exact cs_ok (h x hx)
theorem wcode_ok {D : DM} (hd : D.dead = false) (hl : D.lit = false) (i : Int) (h0 : 0 ≤ i) (h1 : i < D.secs.length) (n : Nat) (hn : n ≤ 64) : D.wcode i n = 0 := by
  unfold DM.wcode
  rw [if_neg (by unfold DM.isDead; rw [hd, hl]; simp), if_neg (by omega), if_neg (by omega)]
theorem writes_ok {D : DM} (hd : D.dead = false) (hl : D.lit = false) (i : Int) (h0 : 0 ≤ i) (h1 : i < D.secs.length) (l : List UInt8) (hn : l.length ≤ 64) :
    D.writes i l = ⟨D.secs.modify i.toNat (·.put l), D.calls + 1, false, D.fuse, false⟩ := by
  unfold DM.writes
  rw [if_pos (wcode_ok hd hl i h0 h1 _ hn)]
  unfold DM.write DM.burned
  simp [hd, hl]
theorem scode_ok {D : DM} (hd : D.dead = false) (hl : D.lit = false) (i : Int) (h0 : 0 ≤ i) (h1 : i < D.secs.length) (l : List UInt8) (hn : l.length ≤ 64) : D.scode i l = 0 := by
  unfold DM.scode
  rw [wcode_ok hd hl i h0 h1 64 (by omega), writes_ok hd hl i h0 h1 l hn]
  rfl
theorem swrite_ok {D : DM} (hd : D.dead = false) (hl : D.lit = false) (i : Int) (h0 : 0 ≤ i) (h1 : i < D.secs.length) (l : List UInt8) (hn : l.length ≤ 64) :
    D.swrite i l = ⟨(D.secs.modify i.toNat (·.put l)).map Sec.flush, D.calls + 2, false, D.fuse, false⟩ := by
  unfold DM.swrite
  rw [wcode_ok hd hl i h0 h1 64 (by omega), writes_ok hd hl i h0 h1 l hn]
  rfl
theorem modify_ok {L : List Sec} (h : ∀ s ∈ L, s.Ok) (i : Nat) (l : List UInt8) (hl : l.length ≤ 64) : ∀ s ∈ L.modify i (·.put l), s.Ok := by
  intro s hs
  by_cases hi : i < L.length
  · rw [modify_at _ _ hi] at hs
    rcases List.mem_or_eq_of_mem_set hs with h1 | h1
    · exact h s h1
    · subst h1
      exact put_ok (h _ (List.getElem_mem hi)) l hl
  · rw [List.modify_eq_self (by omega)] at hs
    exact h s hs
theorem flush_modify (L : List Sec) (h : ∀ s ∈ L, s.Ok) (i : Nat) (l : List UInt8) (hl : l.length = 64) : (L.modify i (·.put l)).map Sec.flush = (L.map Sec.flush).set i (cs l) := by
  by_cases hi : i < L.length
  · rw [modify_at _ _ hi, List.map_set]
    congr 1
    have h1 : (L[i]).now.length = 64 := (h _ (List.getElem_mem hi)).1
    unfold Sec.flush Sec.put cs
    simp [List.drop_of_length_le (by omega : (L[i]).now.length ≤ l.length)]
  · rw [List.modify_eq_self (by omega), List.set_eq_of_length_le (by simp; omega)]
theorem flush_cs (X : List (List UInt8)) : (X.map cs).map Sec.flush = X.map cs := by
  rw [List.map_map]; rfl
theorem set_cs (X : List (List UInt8)) (i : Nat) (x : List UInt8) : (X.map cs).set i (cs x) = (X.set i x).map cs := by
  rw [List.map_set]
theorem Full.set {X : List (List UInt8)} (h : Full X) (i : Nat) {x : List UInt8} (hx : x.length = 64) : Full (X.set i x) := by
  intro y hy
  rcases List.mem_or_eq_of_mem_set hy with h1 | h1
  · exact h y h1
  · subst h1; exact hx
theorem clean_swrite (X : List (List UInt8)) (h : Full X) (c : Nat) (i : Int) (h0 : 0 ≤ i) (h1 : i < X.length) (l : List UInt8) (hl : l.length = 64) :
    (clean X c).scode i l = 0 ∧ (clean X c).swrite i l = clean (X.set i.toNat l) (c + 2) := by
  have hlen : i < (clean X c).secs.length := by simp [clean]; exact h1
  refine ⟨scode_ok rfl rfl i h0 hlen l (by omega), ?_⟩
  rw [swrite_ok rfl rfl i h0 hlen l (by omega)]
  unfold clean
  simp only
  rw [flush_modify _ (clean_ok h) _ _ hl, flush_cs, set_cs]
def zero64 : List UInt8 := List.replicate 64 0
theorem zero64_len : zero64.length = 64 := rfl
/-- What Make leaves. -/
theorem clean_make (X : List (List UInt8)) (h : Full X) (c : Nat) (i : Int) (h0 : 0 ≤ i) (h1 : i + 1 < X.length) (l : List UInt8) (hl : l.length = 64) :
    ((((clean X c).writes i zero64).writes (i + 1) zero64).scode i l = 0) ∧ (((clean X c).writes i zero64).writes (i + 1) zero64).swrite i l = clean (((X.set i.toNat zero64).set (i + 1).toNat zero64).set i.toNat l) (c + 4) := by
  rw [writes_ok (D := clean X c) rfl rfl i h0 (by simp [clean]; omega) zero64 (by decide)]
  rw [writes_ok rfl rfl (i + 1) (by omega) (by simp [clean]; omega) zero64 (by decide)]
  refine ⟨scode_ok rfl rfl i h0 (by simp [clean]; omega) l (by omega), ?_⟩
  rw [swrite_ok rfl rfl i h0 (by simp [clean]; omega) l (by omega)]
  unfold clean
  simp only
  have k1 := modify_ok (clean_ok h) i.toNat zero64 (by decide)
  have k2 := modify_ok k1 (i + 1).toNat zero64 (by decide)
  rw [flush_modify _ k2 _ _ hl, flush_modify _ k1 _ _ zero64_len, flush_modify _ (clean_ok h) _ _ zero64_len, flush_cs, set_cs, set_cs, set_cs]
theorem crashFrom_cs : ∀ (X : List (List UInt8)) (j : Nat) (k : List Bool), crashFrom (X.map cs) j k = X.map cs
  | [], _, _ => rfl
  | x :: X, j, k => by
    simp only [List.map_cons, crashFrom]
    rw [crashFrom_cs X]
    rfl
theorem clean_crash (X : List (List UInt8)) (c : Nat) (k : List Bool) : (clean X c).crash k = clean X 0 := by
  unfold DM.crash clean
  simp only
  rw [crashFrom_cs]
theorem looseFrom_cs : ∀ (X : List (List UInt8)) (i : Int), looseFrom (X.map cs) i = []
  | [], _ => rfl
  | x :: X, i => by
    simp only [List.map_cons, looseFrom]
    rw [looseFrom_cs X]
    rfl
theorem clean_loose (X : List (List UInt8)) (c : Nat) : (clean X c).loose = [] := looseFrom_cs X 0
theorem fresh_clean (n : Nat) : fresh n = clean (List.replicate n zero64) 0 := by
  unfold fresh clean
  rw [List.map_replicate]
  rfl
theorem full_zero (n : Nat) : Full (List.replicate n zero64) := by
  intro x hx
  rw [(List.mem_replicate.1 hx).2]
  rfl
end Go.Proofs.Ytchibinlcedjaaa
