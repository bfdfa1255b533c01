import Derived.Test.YtchibinlcedjaaaE3
namespace Go.Proofs.Ytchibinlcedjaaa
open Go.RowKit
theorem crashFrom_get : ∀ (l : List Sec) (j : Nat) (keep : List Bool) (i : Nat) (hi : i < l.length) (h : i < (crashFrom l j keep).length), (crashFrom l j keep)[i] = (l[i]).fallen (j + cnt (l.take i)) keep
  | s :: r, j, keep, 0, _, _ => by simp [crashFrom, cnt]
  | s :: r, j, keep, i + 1, hi, h => by
    have := crashFrom_get r (j + if s.loose then 1 else 0) keep i (by simpa using hi) (by rw [crashFrom_len]; simpa using hi)
    simp only [crashFrom, List.getElem_cons_succ, List.take_succ_cons, cnt]
    rw [this, Nat.add_assoc]
theorem crash_loose : ∀ (l : List Sec) (j : Nat) (keep : List Bool) (i : Int), looseFrom (crashFrom l j keep) i = []
  | [], _, _, _ => rfl
  | s :: r, j, keep, i => by
    have : (s.fallen j keep).loose = false := by unfold Sec.fallen; split <;> rfl
    simp only [crashFrom, looseFrom, this, Bool.false_eq_true, if_false]
    exact crash_loose r _ keep _
def kd : Nat → DM
  | 0 => fresh 40
  | k + 1 => (kd k).writes (39 - 2 * (k : Int)) [UInt8.ofNat (k + 1)]
theorem kd_code : ∀ k, k < 20 → (kd k).wcode (39 - 2 * (k : Int)) 1 = 0 := by decide +kernel
theorem kd_calls : ∀ k, k < 21 → (kd k).calls = k := by decide +kernel
theorem kd_len : ∀ k, k < 21 → (kd k).secs.length = 40 := by decide +kernel
theorem kd_loose : ∀ k, k < 21 → (kd k).loose.length = k := by decide +kernel
theorem kd_at1 : ∀ n, n < 21 → ∀ i, i < n → ((kd n).secs[39 - 2 * i]?).map (·.loose) = some true := by decide +kernel
theorem kd_at2 : ∀ n, n < 21 → ∀ i, i < n → ((kd n).secs[39 - 2 * i]?).map (fun s => s.now[0]?) = some (some (UInt8.ofNat (i + 1))) := by decide +kernel
theorem kd_at3 : ∀ n, n < 21 → ∀ i, i < n → ((kd n).secs[39 - 2 * i]?).map (fun s => s.lasts[0]?) = some (some 0) := by decide +kernel
theorem kd_cnt : ∀ n, n < 21 → ∀ i, i < n → cnt ((kd n).secs.take (39 - 2 * i)) = n - 1 - i := by decide +kernel
theorem kd_read (n i : Nat) (hn : n < 21) (hi : i < n) (keep : List Bool) (h : 39 - 2 * i < ((kd n).crash keep).secs.length) :
    (bv (((kd n).crash keep).secs[39 - 2 * i]).now)[0]? = some (.int .u8 (if keep.getD (n - 1 - i) false then (i : Int) + 1 else 0)) := by
  have hl := kd_len n hn
  have h2 := kd_at1 n hn i hi
  have h3 := kd_at2 n hn i hi
  have h4 := kd_at3 n hn i hi
  have hlt : 39 - 2 * i < (kd n).secs.length := by omega
  rw [List.getElem?_eq_getElem hlt] at h2 h3 h4
  simp only [Option.map_some, Option.some.injEq] at h2 h3 h4
  have h5 : ((kd n).crash keep).secs[39 - 2 * i] = _ := crashFrom_get (kd n).secs 0 keep (39 - 2 * i) hlt (by rw [crashFrom_len]; exact hlt)
  rw [kd_cnt n hn i hi, Nat.zero_add] at h5
  rw [h5, bv, List.getElem?_map]
  unfold Sec.fallen
  rw [h2]
  cases keep.getD (n - 1 - i) false
  · simp only [Bool.and_false, Bool.false_eq_true, if_false, h4]; rfl
  · simp only [Bool.and_self, if_true, h3, Option.map_some]
    congr 2
    simp
    omega

theorem own_form {w : World} {base : Nat} {e : TypeId} {size : Nat} {v : Value} {n : Nat} {xs : List Value} (h : w.ownsRow base e size v n xs) : ∃ a cap, v = .slice a n cap := by
  obtain ⟨_, ⟨rfl, rfl⟩ | ⟨g, cap, cur, rfl, _⟩⟩ := h
  · exact ⟨_, _, rfl⟩
  · exact ⟨_, _, rfl⟩
/-- A slice of bools. -/
def Sb (w : World) (B : Nat) (v : Value) (l : List Bool) : Prop := Sv w B 1 v l.length (tv l)
set_option maxHeartbeats 1000000 in
theorem devKeeps_walk (w : World) {n : Int} {v : Value} {kl : List Bool} (hn : (Lit.int .i64 n).wf = true) (hv : Sb w w.heap.size v kl) :
    Calls Try.prog 8 #[.int .i64 n, v] w fun e w' => e = .returned (.bool true) ∧ Below w.heap.size w w' := by
  have hn' := bounds_i64 hn
  clear hn
  have HV := Lib.hid hv
  obtain ⟨ka, kc, rfl, hkl⟩ := Sv.form hv
  clear hv
  go_enter Try.func8, Try.ntmps8
  go_wp2_with (fail)
  refine (begun_c w).mono ?_
  rintro e w1 ⟨rfl, bel⟩
  have B1 := Lib.hid bel
  have hz1 := bel.size
  clear bel
  by_cases c1 : n < 0
  · go_wp2_with (fail)
    go_ret
    exact ⟨rfl, B1.out⟩
  by_cases c2 : 20 < n
  · go_wp2_with (fail)
    go_ret
    exact ⟨rfl, B1.out⟩
  obtain ⟨m, rfl⟩ := Int.eq_ofNat_of_zero_le (by omega : 0 ≤ n)
  have d1 : decide ((m : Int) < 0) = false := by simp
  have d2 : decide (20 < (m : Int)) = false := by simp; omega
  clear hn' c1
  go_wp2_with (fail)
  refine (new_m w1 40).mono ?_
  rintro e w2 ⟨⟨p, b, rfl, hp, hb, hD⟩, bel2⟩
  change DevAt w2 p b (fresh 40) at hD
  have HD := Lib.hid hD
  have B2 := Lib.hid (B1.out.trans (bel2.mono hz1))
  have hz2 := bel2.size
  clear hD bel2
  go_wp2_with (fail)
  go_loopg [7] m (fun q i wr => ∃ k : Nat, k + q = m ∧ i = .int .i64 (k : Int) ∧ DevAt wr p b (kd k) ∧ Below w.heap.size w wr)
  case atStart => exact ⟨0, by omega, rfl, HD.out, B2.out⟩
  case round =>
    obtain ⟨k, hk, rfl, hD, bel⟩ := hrel
    by_cases hlt : k < m
    · have HD := Lib.hid hD
      have BEL := Lib.hid bel
      have hz := bel.size
      clear hD bel
      go_wp2_with (fail)
      refine (write_any _ p b (kd k) (HD.out.fr ((Fr.refl [] _).alloc _) (by simp) (by simp)) (by rw [kd_calls k (by omega)]; omega) _ _ _ [UInt8.ofNat (k + 1)] (Sl.one wr _ _ ?hz _)).mono ?_
      case hz => simp; omega
      rintro e w4 ⟨rfl, hD4, f4⟩
      rw [show ([UInt8.ofNat (k + 1)] : List UInt8).length = 1 from rfl, kd_code k (by omega)]
      have HD4 := Lib.hid hD4
      have B4 := Lib.hid ((BEL.out.alloc hz _).trans (f4.below (B := w.heap.size) (by simp; omega) (by simp; omega)))
      clear hD4 f4
      go_wp2_with (fail)
      go_roundg (m - (k + 1))
      case measure => omega
      case rel => exact ⟨k + 1, by omega, by go_num, HD4.out, B4.out⟩
    · have e : k = m := by omega
      subst e
      have HD := Lib.hid hD
      have BEL := Lib.hid bel
      have hz := bel.size
      clear hD bel
      go_wp2_with (fail)
      refine (crash_c wr p b _ HD.out w.heap.size _ kl (HV.out.below (Nat.le_refl _) BEL.out (Nat.le_refl _)) hz).mono ?_
      rintro e w5 ⟨⟨p1, b1, rfl, hp1, hb1, hC⟩, bel5⟩
      have HC := Lib.hid hC
      have HD5 := Lib.hid (HD.out.below bel5 HD.out.lt.1 HD.out.lt.2)
      have B5 := Lib.hid (BEL.out.trans (bel5.mono hz))
      have hz5 := bel5.size
      clear hC bel5
      obtain ⟨wo, rfl⟩ : ∃ wo : World, wo = wr := ⟨_, rfl⟩
      go_wp2_with (fail)
      go_loopg [9, 10, 11, 12, 13] k (fun q i _ _ _ _ wr => ∃ j : Nat, j + q = k ∧ i = .int .i64 (j : Int) ∧ DevAt wr p1 b1 ((kd k).crash kl) ∧ DevAt wr p b (kd k) ∧ Below w.heap.size w wr)
      case atStart => exact ⟨0, by omega, rfl, HC.out, HD5.out, B5.out⟩
      case round =>
        obtain ⟨j, hj, rfl, hC, hD, bel⟩ := hrel
        have HC := Lib.hid hC
        have HD := Lib.hid hD
        have BEL := Lib.hid bel
        have hz := bel.size
        clear hC hD bel
        by_cases hlt : j < k
        · have hcl : Hid (((kd k).crash kl).secs.length = 40) := by
            show (crashFrom (kd k).secs 0 kl).length = 40
            rw [crashFrom_len, kd_len k (by omega)]
          have hrd := read_c wr p1 b1 _ HC.out (39 - 2 * j) (by have := hcl.out; omega)
          have e39 : ((39 - 2 * j : Nat) : Int) = 39 - 2 * (j : Int) := by omega
          rw [e39] at hrd
          have HR := Lib.hid hrd
          clear hrd
          go_wp2_with (fail)
          refine HR.out.mono ?_
          rintro e w6 ⟨⟨g, c, rfl, own⟩, bel6⟩
          have hx := own.cellAt 0 (by decide)
          rw [kd_read k j (by omega) hlt kl _] at hx
          have HC6 := Lib.hid (HC.out.below bel6 HC.out.lt.1 HC.out.lt.2)
          have HD6 := Lib.hid (HD.out.below bel6 HD.out.lt.1 HD.out.lt.2)
          have B6 := Lib.hid (BEL.out.trans (bel6.mono hz))
          have hv6 := HV.out.below (Nat.le_refl _) (BEL.out.trans (bel6.mono hz)) (Nat.le_refl _)
          have HV6 := Lib.hid hv6
          clear own bel6 hv6
          by_cases hat : k - 1 - j < kl.length
          · obtain ⟨kb, ko, rfl, hkb, hkc⟩ := HV6.out.at_ (by rw [tv_len]; omega)
            have kc := hkc (k - 1 - j) (by rw [tv_len]; exact hat)
            have e : (tv kl)[k - 1 - j]'(by rw [tv_len]; exact hat) = .bool kl[k - 1 - j] := by simp [tv]
            rw [e] at kc
            have hg : kl.getD (k - 1 - j) false = kl[k - 1 - j] := by simp [hat]
            rw [hg] at hx
            clear hkc hg e
            have hat' : ((k : Int) - 1 - (j : Int)) < (kl.length : Int) := by omega
            cases hkj : kl[k - 1 - j]
            all_goals
              rw [hkj] at hx kc
              simp only [Bool.false_eq_true, if_false, if_true] at hx
              clear hkj
              go_wp2_with (fail)
              go_roundg (k - (j + 1))
              case measure => omega
              case rel => exact ⟨j + 1, by omega, by go_num, HC6.out, HD6.out, B6.out⟩
          · have hg : kl.getD (k - 1 - j) false = false := by simp [List.getD, List.getElem?_eq_none (Nat.le_of_not_lt hat)]
            rw [hg] at hx
            simp only [Bool.false_eq_true, if_false] at hx
            clear hg
            have hat' : (kl.length : Int) ≤ ((k : Int) - 1 - (j : Int)) := by omega
            go_wp2_with (fail)
            go_roundg (k - (j + 1))
            case measure => omega
            case rel => exact ⟨j + 1, by omega, by go_num, HC6.out, HD6.out, B6.out⟩
        · have e : j = k := by omega
          subst e
          have hcl : Hid (((kd j).crash kl).loose = []) := crash_loose _ _ _ _
          go_wp2_with (fail)
          refine (loose_c wr p1 b1 _ HC.out).mono ?_
          rintro e w6 ⟨⟨v, rfl, own⟩, bel6⟩
          rw [hcl.out] at own
          obtain ⟨a, cap, rfl⟩ := own_form own
          have HD6 := Lib.hid (HD.out.below bel6 HD.out.lt.1 HD.out.lt.2)
          have B6 := Lib.hid (BEL.out.trans (bel6.mono hz))
          have hz6 := bel6.size
          have hlen0 : ([] : List Int).length = 0 := rfl
          clear own bel6
          go_wp2_with (fail)
          refine (loose_c w6 p b _ HD6.out).mono ?_
          rintro e w7 ⟨⟨v, rfl, own⟩, bel7⟩
          have hll := kd_loose j (by omega)
          rw [hll] at own
          obtain ⟨a2, cap2, rfl⟩ := own_form own
          have B7 := Lib.hid (B6.out.trans (bel7.mono (by omega)))
          clear own bel7 hll
          go_wp2_with (fail)
          go_ret
          exact ⟨rfl, B7.out⟩
theorem Sb.of_bools {w : World} {x : Addr} {len cap : Nat} {f : Nat → Bool} (hl : len ≤ cap) (hm : cap ≤ maxLen) (hc : ∀ i, i < cap → w.cell? (x.add i) = some (.bool (f i))) : ∃ l, Sb w w.heap.size (.slice (some x) len cap) l := by
  have e : ((List.range len).map f).length = len := by simp
  refine ⟨(List.range len).map f, ?_⟩
  unfold Sb
  rw [e]
  refine Sv.of_cells _ (by simp) (by rw [tv_len, e, Nat.mul_one]) hl hm ?_
  rintro x' ⟨⟩ i hi
  rw [tv_len, e] at hi
  rw [hc i (by omega)]
  simp [tv]
end Go.Proofs.Ytchibinlcedjaaa
