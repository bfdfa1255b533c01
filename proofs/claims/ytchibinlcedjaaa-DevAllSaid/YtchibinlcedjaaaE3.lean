import Derived.Test.YtchibinlcedjaaaE2
namespace Go.Proofs.Ytchibinlcedjaaa
open Go.RowKit
/-- One byte that has just been made, as a slice. -/
theorem Sl.one (w : World) (c : UInt8) (z : Int) (hz : z = (c.toNat : Int)) (fr : Nat × Nat) : Sl (w.alloc (.cells #[.int .u8 z] 5 fr)) (w.heap.size + 1) (.slice (some ⟨w.heap.size, 0, none⟩) 1 1) [c] := by
  subst hz
  exact Sl.new w [c] fr 1 (by simp) (by simp [maxLen])
structure Burning (F i : Nat) (D : DM) : Prop where
  len : D.secs.length = 4
  lit : D.lit = true
  fuse : D.fuse = F - min i F
  dead : D.dead = (F == 0)
  calls : D.calls = min i F
theorem Burning.isDead {F i : Nat} {D : DM} (h : Burning F i D) : D.isDead = decide (F ≤ i) := by
  obtain ⟨_, h2, h3, h4, _⟩ := h
  unfold DM.isDead
  rw [h2, h3, h4, Bool.eq_iff_iff]
  simp
  omega
theorem Burning.start (F : Nat) : Burning F 0 ((fresh 4).fused (F : Int)) :=
  ⟨rfl, by simp [DM.fused], by simp [DM.fused], by simp [DM.fused, fresh, DM.isDead]; rw [Bool.eq_iff_iff]; simp, by simp [DM.fused, fresh]⟩
theorem Burning.wcode {F i : Nat} {D : DM} (h : Burning F i D) (k : Int) (h0 : 0 ≤ k) (h1 : k < 4) : D.wcode k 1 = if i < F then 0 else 7 := by
  unfold DM.wcode
  rw [h.isDead, h.len]
  by_cases hf : i < F
  · simp [hf, Nat.not_le.2 hf]
    omega
  · simp [hf, Nat.not_lt.1 hf]
theorem Burning.fcode {F i : Nat} {D : DM} (h : Burning F i D) : (if D.isDead then (7 : Int) else 0) = if i < F then 0 else 7 := by
  rw [h.isDead]
  by_cases hf : i < F
  · simp [hf, Nat.not_le.2 hf]
  · simp [hf, Nat.not_lt.1 hf]
theorem Burning.burned {F i : Nat} {D : DM} (h : Burning F i D) (hf : i < F) (l : List Sec) (hl : l.length = 4) : Burning F (i + 1) { D.burned with secs := l } := by
  obtain ⟨h1, h2, h3, h4, h5⟩ := h
  refine ⟨hl, h2, ?_, h4, ?_⟩
  · simp only [DM.burned, h2, if_true, h3]; omega
  · simp only [DM.burned, h5]; omega
theorem Burning.stay {F i : Nat} {D : DM} (h : Burning F i D) (hf : ¬ i < F) : Burning F (i + 1) D := by
  obtain ⟨h1, h2, h3, h4, h5⟩ := h
  exact ⟨h1, h2, by omega, h4, by omega⟩
theorem Burning.writes {F i : Nat} {D : DM} (h : Burning F i D) (k : Int) (h0 : 0 ≤ k) (h1 : k < 4) (c : UInt8) : Burning F (i + 1) (D.writes k [c]) := by
  unfold DM.writes
  have := h.wcode k h0 h1
  rw [show ([c] : List UInt8).length = 1 from rfl, this]
  by_cases hf : i < F
  · rw [if_pos hf, if_pos rfl]
    exact h.burned hf _ (by simp [h.len])
  · rw [if_neg hf, if_neg (by decide)]
    exact h.stay hf
theorem Burning.flushes {F i : Nat} {D : DM} (h : Burning F i D) : Burning F (i + 1) D.flushes := by
  unfold DM.flushes
  rw [h.isDead]
  by_cases hf : i < F
  · rw [if_neg (by simp; omega)]
    exact h.burned hf _ (by simp [h.len])
  · rw [if_pos (by simp; omega)]
    exact h.stay hf
theorem Burning.small {F i : Nat} {D : DM} (h : Burning F i D) (hF : F ≤ 40) : D.calls ≤ 1000000 := by rw [h.calls]; omega

set_option maxHeartbeats 1000000 in
theorem devFuse_walk (w : World) {n f : Int} (hn : (Lit.int .i64 n).wf = true) (hf : (Lit.int .i64 f).wf = true) :
    Calls Try.prog 7 #[.int .i64 n, .int .i64 f] w fun e w' => e = .returned (.bool true) ∧ Below w.heap.size w w' := by
  have hn' := bounds_i64 hn
  have hf' := bounds_i64 hf
  clear hn hf
  go_enter Try.func7, Try.ntmps7
  go_wp2_with (fail)
  refine (begun_c w).mono ?_
  rintro e w1 ⟨rfl, bel⟩
  have B1 := Lib.hid bel
  have hz1 := bel.size
  clear bel
  by_cases c1 : n < 0
  · go_wp2_with (fail)
    go_ret
    exact ⟨rfl, B1.out⟩
  by_cases c2 : 30 < n
  · go_wp2_with (fail)
    go_ret
    exact ⟨rfl, B1.out⟩
  by_cases c3 : f < 0
  · go_wp2_with (fail)
    go_ret
    exact ⟨rfl, B1.out⟩
  by_cases c4 : 40 < f
  · go_wp2_with (fail)
    go_ret
    exact ⟨rfl, B1.out⟩
  obtain ⟨m, rfl⟩ := Int.eq_ofNat_of_zero_le (by omega : 0 ≤ n)
  obtain ⟨F, rfl⟩ := Int.eq_ofNat_of_zero_le (by omega : 0 ≤ f)
  have d1 : decide ((m : Int) < 0) = false := by simp
  have d2 : decide (30 < (m : Int)) = false := by simp; omega
  have d3 : decide ((F : Int) < 0) = false := by simp
  have d4 : decide (40 < (F : Int)) = false := by simp; omega
  clear hn' hf' c1 c3
  go_wp2_with (fail)
  refine (new_m w1 4).mono ?_
  rintro e w2 ⟨⟨p, b, rfl, hp, hb, hD⟩, bel2⟩
  change DevAt w2 p b (fresh 4) at hD
  have HD := Lib.hid hD
  have B2 := Lib.hid (B1.out.trans (bel2.mono hz1))
  have hz2 := bel2.size
  clear hD bel2
  go_wp2_with (fail)
  refine (fuse_c w2 p b _ HD.out F (by omega)).mono ?_
  rintro e w3 ⟨rfl, hD3, f3⟩
  have HD3 := Lib.hid hD3
  have B3 := Lib.hid (B2.out.trans (f3.below (B := w.heap.size) (by omega) (by simp; omega)))
  clear hD3 f3
  go_wp2_with (fail)
  go_loopg [7, 8] m (fun q i _ wr => ∃ k D, k + q = m ∧ i = .int .i64 (k : Nat) ∧ DevAt wr p b D ∧ Burning F k D ∧ Below w.heap.size w wr)
  case atStart => exact ⟨0, _, by omega, rfl, HD3.out, Burning.start F, B3.out⟩
  case round =>
    obtain ⟨k, D, hk, rfl, hD, hB, bel⟩ := hrel
    by_cases hlt : k < m
    · have HD := Lib.hid hD
      have HB := Lib.hid hB
      have BEL := Lib.hid bel
      have hz := bel.size
      clear hD hB bel
      by_cases h3 : (k : Int) % 3 = 2
      · have h3' : ((k : Int) % 3 == 2) = true := by simpa using h3
        clear h3
        go_wp2_with (fail)
        refine (flush_any wr p b D HD.out (HB.out.small (by omega))).mono ?_
        rintro e w4 ⟨rfl, hD4, f4⟩
        rw [HB.out.fcode]
        have HD4 := Lib.hid hD4
        have B4 := Lib.hid (BEL.out.trans (f4.below (B := w.heap.size) hz (by simp; omega)))
        clear hD4 f4
        by_cases hf : k < F
        · have hf' : decide ((k : Int) < (F : Int)) = true := by simpa using hf
          rw [if_pos hf]
          go_wp2_with (fail)
          go_roundg (m - (k + 1))
          case measure => omega
          case rel => exact ⟨k + 1, _, by omega, by go_num, HD4.out, HB.out.flushes, B4.out⟩
        · have hf' : decide ((k : Int) < (F : Int)) = false := by simpa using hf
          rw [if_neg hf]
          go_wp2_with (fail)
          go_roundg (m - (k + 1))
          case measure => omega
          case rel => exact ⟨k + 1, _, by omega, by go_num, HD4.out, HB.out.flushes, B4.out⟩
      · have h3' : ((k : Int) % 3 == 2) = false := by simpa using h3
        clear h3
        go_wp2_with (fail)
        refine (write_any _ p b D (HD.out.fr ((Fr.refl [] _).alloc _) (by simp) (by simp)) (HB.out.small (by omega)) _ _ _ [UInt8.ofNat (k + 1)] (Sl.one wr _ _ ?hz _)).mono ?_
        case hz => simp; omega
        rintro e w4 ⟨rfl, hD4, f4⟩
        rw [show ([UInt8.ofNat (k + 1)] : List UInt8).length = 1 from rfl, HB.out.wcode _ (by omega) (by omega)]
        have HD4 := Lib.hid hD4
        have B4 := Lib.hid ((BEL.out.alloc hz _).trans (f4.below (B := w.heap.size) (by simp; omega) (by simp; omega)))
        clear hD4 f4
        by_cases hf : k < F
        · have hf' : decide ((k : Int) < (F : Int)) = true := by simpa using hf
          rw [if_pos hf]
          go_wp2_with (fail)
          go_roundg (m - (k + 1))
          case measure => omega
          case rel => exact ⟨k + 1, _, by omega, by go_num, HD4.out, HB.out.writes _ (by omega) (by omega) _, B4.out⟩
        · have hf' : decide ((k : Int) < (F : Int)) = false := by simpa using hf
          rw [if_neg hf]
          go_wp2_with (fail)
          go_roundg (m - (k + 1))
          case measure => omega
          case rel => exact ⟨k + 1, _, by omega, by go_num, HD4.out, HB.out.writes _ (by omega) (by omega) _, B4.out⟩
    · have e : k = m := by omega
      subst e
      have HD := Lib.hid hD
      have BEL := Lib.hid bel
      have hcal := hB.calls
      have hdead := hB.isDead
      have HC := Lib.hid hcal
      have HX := Lib.hid hdead
      clear hD hB bel hcal hdead
      rcases Nat.lt_trichotomy k F with h | h | h
      · have h1 : ((k : Int) < (F : Int)) := by omega
        have hx : D.isDead = false := by rw [HX.out]; simp; omega
        have hc : (D.calls : Int) = (k : Int) := by rw [HC.out]; omega
        have hge : decide ((F : Int) ≤ (k : Int)) = false := by simp; omega
        have HXX := Lib.hid hx
        have HCC := Lib.hid hc
        clear hx hc
        go_wp2_with (fail)
        refine (calls_c wr p b D HD.out).mono ?_
        rintro e w' ⟨rfl, rfl⟩
        rw [HCC.out]
        go_wp2_with (fail)
        refine (dead_c wr p b D HD.out).mono ?_
        rintro e w' ⟨rfl, rfl⟩
        rw [HXX.out]
        go_wp2_with (fail)
        go_ret
        refine ⟨congrArg (fun b => Ending.returned (.bool b)) ?_, BEL.out⟩
        first | rfl | (simp; omega)
      · subst h
        have hx : D.isDead = true := by rw [HX.out]; simp
        have hc : (D.calls : Int) = (k : Int) := by rw [HC.out]; omega
        have HXX := Lib.hid hx
        have HCC := Lib.hid hc
        clear hx hc
        go_wp2_with (fail)
        refine (calls_c wr p b D HD.out).mono ?_
        rintro e w' ⟨rfl, rfl⟩
        rw [HCC.out]
        go_wp2_with (fail)
        refine (dead_c wr p b D HD.out).mono ?_
        rintro e w' ⟨rfl, rfl⟩
        rw [HXX.out]
        go_wp2_with (fail)
        go_ret
        refine ⟨congrArg (fun b => Ending.returned (.bool b)) ?_, BEL.out⟩
        first | rfl | (simp; omega)
      · have h1 : ((F : Int) < (k : Int)) := by omega
        have hx : D.isDead = true := by rw [HX.out]; simp; omega
        have hc : (D.calls : Int) = (F : Int) := by rw [HC.out]; omega
        have hge : decide ((F : Int) ≤ (k : Int)) = true := by simp; omega
        have HXX := Lib.hid hx
        have HCC := Lib.hid hc
        clear hx hc
        go_wp2_with (fail)
        refine (calls_c wr p b D HD.out).mono ?_
        rintro e w' ⟨rfl, rfl⟩
        rw [HCC.out]
        go_wp2_with (fail)
        refine (dead_c wr p b D HD.out).mono ?_
        rintro e w' ⟨rfl, rfl⟩
        rw [HXX.out]
        go_wp2_with (fail)
        go_ret
        refine ⟨congrArg (fun b => Ending.returned (.bool b)) ?_, BEL.out⟩
        first | rfl | (simp; omega)
end Go.Proofs.Ytchibinlcedjaaa
