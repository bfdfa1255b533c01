import Derived.Test.YtchibinlcedjaaaE4
import Derived.Lib.BufferRead
namespace Go.Proofs.Ytchibinlcedjaaa
open Go.RowKit
/-- The string of some bytes. -/
def str (l : List UInt8) : ByteArray := ⟨l.toArray⟩
theorem str_inj {a b : List UInt8} (h : str a = str b) : a = b := by
  have : a.toArray = b.toArray := congrArg ByteArray.data h
  simpa using this
theorem str_beq (a b : List UInt8) : (str a == str b) = (a == b) := by
  show (a.toArray == b.toArray) = _
  simp
theorem Sl.str {w : World} {B : Nat} {v : Value} {l : List UInt8} (h : Sl w B v l) : (convert 31 9 v).run Try.prog w = .ok (.string (str l)) w := by
  obtain ⟨hl, hm, a, cap, rfl, h0, h1, hn, h2⟩ := h
  rcases a with _ | ad
  · rcases h2 with h2 | ⟨b, off, e, _⟩
    · have : l = [] := by simpa [bv] using h2
      subst this
      exact Lib.run_convert_nil_bytes w 31 9 5 cap Try.underlying31 Try.underlying5 Try.underlying9
    · cases e
  · refine run_convert_bytes_back w 31 9 5 ad cap l Try.underlying31 Try.underlying5 Try.underlying9 ?_
    intro j hj
    rcases h2 with h2 | ⟨b, off, e, hb, hc⟩
    · have : l = [] := by simpa [bv] using h2
      subst this
      simp at hj
    · cases e
      rw [add_at, hc j (by rw [bv_len]; exact hj)]
      simp [bv]
theorem Sl.of_own {w : World} {base : Nat} {e : TypeId} {v : Value} {n : Nat} {l : List UInt8} (h : w.ownsRow base e 1 v n (bv l)) : Sl w w.heap.size v l := by
  have hn : n = l.length := by have := h.1; rw [bv_len, Nat.mul_one] at this; exact this.symm
  subst hn
  exact Sv.own h
theorem writes_len (D : DM) (i : Int) (l : List UInt8) : (D.writes i l).secs.length = D.secs.length := by
  unfold DM.writes
  split
  · simp [DM.write, DM.burned]
  · rfl
theorem writes_calls (D : DM) (i : Int) (l : List UInt8) : (D.writes i l).calls ≤ D.calls + 1 := by
  unfold DM.writes
  split
  · simp [DM.write, DM.burned]
  · omega
theorem flushes_len (D : DM) : D.flushes.secs.length = D.secs.length := by
  unfold DM.flushes
  split
  · rfl
  · simp [DM.flush]
theorem flushes_calls (D : DM) : D.flushes.calls ≤ D.calls + 1 := by
  unfold DM.flushes
  split
  · omega
  · simp [DM.flush, DM.burned]
theorem mod16 (x : Int) : ∃ y : Int, x.tmod 16 = y ∧ -16 < y ∧ y < 16 := by
  have h1 := Int.tmod_lt_of_pos x (show (0 : Int) < 16 by omega)
  have h2 : -16 < x.tmod 16 := by
    have := Int.lt_tmod_of_pos x (show (0 : Int) < 16 by omega)
    omega
  exact ⟨_, rfl, h2, h1⟩
theorem crash_twice (D : DM) (k1 k2 : List Bool) (i : Nat) (h1 : i < (D.crash k1).secs.length) (h2 : i < ((D.crash k1).crash k2).secs.length) : (((D.crash k1).crash k2).secs[i]).now = ((D.crash k1).secs[i]).now := by
  have hi : i < D.secs.length := by rw [show (D.crash k1).secs.length = D.secs.length from crashFrom_len _ _ _] at h1; exact h1
  have e1 : (D.crash k1).secs[i] = _ := crashFrom_get D.secs 0 k1 i hi h1
  have e2 : ((D.crash k1).crash k2).secs[i] = _ := crashFrom_get (D.crash k1).secs 0 k2 i h1 h2
  have hf : ∀ (s : Sec) (j : Nat) (kl : List Bool), (s.fallen j kl).loose = false ∧ (s.fallen j kl).lasts = (s.fallen j kl).now := by
    intro s j kl
    unfold Sec.fallen
    split <;> exact ⟨rfl, rfl⟩
  rw [e2]
  generalize hq : (D.crash k1).secs[i] = q at *
  have h3 : q.loose = false ∧ q.lasts = q.now := by rw [e1]; exact hf _ _ _
  unfold Sec.fallen
  rw [h3.1]
  simp only [Bool.false_and, Bool.false_eq_true, if_false]
  exact h3.2
set_option maxHeartbeats 1000000 in
theorem devTwice_walk (w : World) {vw v1 v2 : Value} {lw : List Int} {f : Int} {k1 k2 : List Bool} (hw : Si w w.heap.size vw lw) (hf : (Lit.int .i64 f).wf = true) (h1 : Sb w w.heap.size v1 k1) (h2 : Sb w w.heap.size v2 k2) :
    Calls Try.prog 6 #[vw, .int .i64 f, v1, v2] w fun e w' => e = .returned (.bool true) ∧ Below w.heap.size w w' := by
  have hf' := bounds_i64 hf
  have HSI := Lib.hid hw
  have HV1 := Lib.hid h1
  have HV2 := Lib.hid h2
  obtain ⟨wa, wc, rfl, hwl⟩ := Sv.form hw.1
  obtain ⟨a1, c1, rfl, hl1⟩ := Sv.form h1
  obtain ⟨a2, c2, rfl, hl2⟩ := Sv.form h2
  clear hf hw h1 h2
  go_enter Try.func6, Try.ntmps6
  go_wp2_with (fail)
  refine (begun_c w).mono ?_
  rintro e w1 ⟨rfl, bel⟩
  have B1 := Lib.hid bel
  have hz1 := bel.size
  clear bel
  go_wp2_with (fail)
  refine (new_m w1 16).mono ?_
  rintro e w2 ⟨⟨p, b, rfl, hp, hb, hD⟩, bel2⟩
  change DevAt w2 p b (fresh 16) at hD
  have HD := Lib.hid hD
  have B2 := Lib.hid (B1.out.trans (bel2.mono hz1))
  clear hD bel2
  go_wp2_with (fail)
  go_loopg [11] lw.length (fun q i wr => ∃ (k : Nat) (D : DM), k + q = lw.length ∧ i = .int .i64 (k : Int) ∧ DevAt wr p b D ∧ (D.secs.length = 16 ∧ D.calls ≤ 2 * k) ∧ Below w.heap.size w wr)
  case atStart => exact ⟨0, _, by omega, rfl, HD.out, ⟨rfl, by simp [fresh]⟩, B2.out⟩
  case round =>
    obtain ⟨k, D, hk, rfl, hD, hDD, bel⟩ := hrel
    have HD := Lib.hid hD
    have HDD := Lib.hid hDD
    have BEL := Lib.hid bel
    have hz := bel.size
    clear hD bel hDD
    by_cases hlt : k < lw.length ∧ k < 30
    · obtain ⟨hlt, h30⟩ := hlt
      obtain ⟨wb, wo, rfl, hwb, hwc⟩ := HSI.out.1.at_ (by rw [iv_len]; omega)
      have kc := hwc k (by rw [iv_len]; exact hlt)
      rw [← BEL.out.cell (p := ⟨wb, wo + k, none⟩) hwb] at kc
      have e : (iv lw)[k]'(by rw [iv_len]; exact hlt) = .int .i64 lw[k] := by simp [iv]
      rw [e] at kc
      obtain ⟨y, hy, hy1, hy2⟩ := mod16 lw[k]
      generalize lw[k] = x at *
      clear hwc e
      go_wp2_with (fail)
      refine (write_any _ p b D (HD.out.fr ((Fr.refl [] _).alloc _) (by simp) (by simp)) (by have := HDD.out.2; omega) _ _ _ [UInt8.ofNat (k + 1)] (Sl.one wr _ _ ?hz _)).mono ?_
      case hz => simp; omega
      rintro e w4 ⟨rfl, hD4, f4⟩
      have HD4 := Lib.hid hD4
      have B4 := Lib.hid ((BEL.out.alloc hz _).trans (f4.below (B := w.heap.size) (by simp; omega) (by simp; omega)))
      have hz4 : w.heap.size ≤ w4.heap.size := B4.out.size
      have HL4 := Lib.hid (writes_len D (y % 16) [UInt8.ofNat (k + 1)])
      have HC4 := Lib.hid (writes_calls D (y % 16) [UInt8.ofNat (k + 1)])
      clear hD4 f4
      generalize D.writes (y % 16) [UInt8.ofNat (k + 1)] = D4 at *
      generalize D.wcode (y % 16) ([UInt8.ofNat (k + 1)] : List UInt8).length = c4 at *
      by_cases hkf : (k : Int) = f
      · have hkf' : ((k : Int) == f) = true := by simpa using hkf
        clear hkf
        go_wp2_with (fail)
        refine (flush_any w4 p b D4 HD4.out (by have := HDD.out.2; have := HC4.out; omega)).mono ?_
        rintro e w5 ⟨rfl, hD5, f5⟩
        have HD5 := Lib.hid hD5
        have B5 := Lib.hid (B4.out.trans (f5.below (B := w.heap.size) hz4 (by simp; omega)))
        have HL5 := Lib.hid (flushes_len D4)
        have HC5 := Lib.hid (flushes_calls D4)
        clear hD5 f5
        generalize D4.flushes = D5 at *
        generalize (if D4.isDead = true then (7 : Int) else 0) = c5 at *
        go_wp2_with (fail)
        go_roundg (lw.length - (k + 1))
        case measure => omega
        case rel => exact ⟨k + 1, D5, by omega, by go_num, HD5.out, ⟨by rw [HL5.out, HL4.out, HDD.out.1], by have := HDD.out.2; have := HC4.out; have := HC5.out; omega⟩, B5.out⟩
      · have hkf' : ((k : Int) == f) = false := by simpa using hkf
        clear hkf
        go_wp2_with (fail)
        go_roundg (lw.length - (k + 1))
        case measure => omega
        case rel => exact ⟨k + 1, D4, by omega, by go_num, HD4.out, ⟨by rw [HL4.out, HDD.out.1], by have := HDD.out.2; have := HC4.out; omega⟩, B4.out⟩
    · have hex : (lw.length : Int) ≤ (k : Int) ∨ (k : Int) < (lw.length : Int) ∧ 30 ≤ (k : Int) := by omega
      clear hlt
      rcases hex with h | ⟨h, h'⟩
      all_goals
        go_wp2_with (fail)
        refine (crash_c wr p b _ HD.out w.heap.size _ k1 (HV1.out.below (Nat.le_refl _) BEL.out (Nat.le_refl _)) hz).mono ?_
        rintro e w5 ⟨⟨p1, b1, rfl, hp1, hb1, hC⟩, bel5⟩
        have HC := Lib.hid hC
        have B5 := Lib.hid (BEL.out.trans (bel5.mono hz))
        have hz5 := bel5.size
        clear hC bel5
        go_wp2_with (fail)
        refine (crash_c w5 p1 b1 _ HC.out w.heap.size _ k2 (HV2.out.below (Nat.le_refl _) B5.out (Nat.le_refl _)) (by omega)).mono ?_
        rintro e w6 ⟨⟨p2, b2, rfl, hp2, hb2, hE⟩, bel6⟩
        have HC6 := Lib.hid (HC.out.below bel6 HC.out.lt.1 HC.out.lt.2)
        have HE := Lib.hid hE
        have B6 := Lib.hid (B5.out.trans (bel6.mono (by omega)))
        have hz6 := bel6.size
        clear hE bel6
        obtain ⟨wo, rfl⟩ : ∃ wo : World, wo = wr := ⟨_, rfl⟩
        go_wp2_with (fail)
        go_loopg [14, 15, 16, 17, 18] 16 (fun q i _ _ _ _ wr => ∃ j : Nat, j + q = 16 ∧ i = .int .i64 (j : Int) ∧ DevAt wr p1 b1 (D.crash k1) ∧ DevAt wr p2 b2 ((D.crash k1).crash k2) ∧ Below w.heap.size w wr)
        case atStart => exact ⟨0, by omega, rfl, HC6.out, HE.out, B6.out⟩
        case round =>
          obtain ⟨j, hj, rfl, hC, hE, bel⟩ := hrel
          have HC := Lib.hid hC
          have HE := Lib.hid hE
          have BEL := Lib.hid bel
          have hz := bel.size
          clear hC hE bel
          by_cases hlt : j < 16
          · have hl1 : Hid ((D.crash k1).secs.length = 16) := by
              show (crashFrom D.secs 0 k1).length = 16
              rw [crashFrom_len]; exact HDD.out.1
            have hl2 : Hid (((D.crash k1).crash k2).secs.length = 16) := by
              show (crashFrom (D.crash k1).secs 0 k2).length = 16
              rw [crashFrom_len]; exact hl1.out
            go_wp2_with (fail)
            refine (read_c wr p1 b1 _ HC.out j (by have := hl1.out; omega)).mono ?_
            rintro e w7 ⟨⟨g1, e1, rfl, own1⟩, bel7⟩
            have HC7 := Lib.hid (HC.out.below bel7 HC.out.lt.1 HC.out.lt.2)
            have HE7 := Lib.hid (HE.out.below bel7 HE.out.lt.1 HE.out.lt.2)
            have B7 := Lib.hid (BEL.out.trans (bel7.mono hz))
            have hz7 := bel7.size
            have S1 := Lib.hid (Sl.of_own own1)
            clear own1 bel7
            go_wp2_with (fail)
            refine (read_c w7 p2 b2 _ HE7.out j (by have := hl2.out; omega)).mono ?_
            rintro e w8 ⟨⟨g2, e2, rfl, own2⟩, bel8⟩
            have HC8 := Lib.hid (HC7.out.below bel8 HC7.out.lt.1 HC7.out.lt.2)
            have HE8 := Lib.hid (HE7.out.below bel8 HE7.out.lt.1 HE7.out.lt.2)
            have B8 := Lib.hid (B7.out.trans (bel8.mono (by omega)))
            have cs1 := Sl.str (Sv.below S1.out (Nat.le_refl _) bel8 (Nat.le_refl _))
            have cs2 := Sl.str (Sl.of_own own2)
            rw [crash_twice D k1 k2 j (by have := hl1.out; omega) _] at cs2
            generalize ((D.crash k1).secs[j]'(by have := hl1.out; omega)).now = N at *
            have hq : (str N == str N) = true := by rw [str_beq]; simp
            clear own2 bel8
            go_wp2_with (fail)
            go_roundg (16 - (j + 1))
            case measure => omega
            case rel => exact ⟨j + 1, by omega, by go_num, HC8.out, HE8.out, B8.out⟩
          · have e : j = 16 := by omega
            subst e
            have hcl : Hid (((D.crash k1).crash k2).loose = []) := crash_loose _ _ _ _
            have hcc : Hid (((D.crash k1).crash k2).calls = 0) := rfl
            have hcd : Hid (((D.crash k1).crash k2).isDead = false) := rfl
            go_wp2_with (fail)
            refine (calls_c wr p2 b2 _ HE.out).mono ?_
            rintro e w' ⟨rfl, rfl⟩
            rw [hcc.out]
            go_wp2_with (fail)
            refine (dead_c wr p2 b2 _ HE.out).mono ?_
            rintro e w' ⟨rfl, rfl⟩
            rw [hcd.out]
            go_wp2_with (fail)
            refine (loose_c wr p2 b2 _ HE.out).mono ?_
            rintro e w7 ⟨⟨v, rfl, own⟩, bel7⟩
            rw [hcl.out] at own
            obtain ⟨a, cap, rfl⟩ := own_form own
            have B7 := Lib.hid (BEL.out.trans (bel7.mono hz))
            have hlen0 : ([] : List Int).length = 0 := rfl
            clear own bel7
            go_wp2_with (fail)
            go_ret
            exact ⟨rfl, B7.out⟩
end Go.Proofs.Ytchibinlcedjaaa
