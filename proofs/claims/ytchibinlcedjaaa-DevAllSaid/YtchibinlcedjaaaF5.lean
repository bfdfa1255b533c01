import Derived.Test.YtchibinlcedjaaaF4
namespace Go.Proofs.Ytchibinlcedjaaa
open Go.RowKit
theorem bel_drewN {B : Nat} {a w : World} (h : Below B a w) (n : Nat) : Below B a (w.drewN n) := ⟨h.os, h.tape, h.output, h.size, h.block⟩
structure Mt (D : DM) (m : WM) : Prop where
  len : D.secs.length = m.now.length
  now : ∀ i (h : i < D.secs.length), (D.secs[i]).now = m.now.getD i []
  loose : ∀ i (h : i < D.secs.length), (D.secs[i]).loose = m.loose.getD i false
  calls : D.calls = m.calls
  dead : D.isDead = m.isDead
theorem loose_at (L : List Sec) (k : Nat) (hk : k < L.length) (hl : (L[k]).loose = true) : (looseFrom L 0)[(looseFrom (L.take k) 0).length]? = some (k : Int) := by
  have e : looseFrom L 0 = looseFrom (L.take k) 0 ++ looseFrom (L.drop k) (0 + (L.take k).length) := by
    rw [← looseFrom_app, List.take_append_drop]
  rw [e, List.getElem?_append_right (Nat.le_refl _), Nat.sub_self, List.drop_eq_getElem_cons hk, looseFrom, if_pos hl, List.length_take, Nat.min_eq_left (by omega)]
  simp
set_option maxHeartbeats 8000000 in
theorem same24_c (w : World) (p b ww nb sb lb nc sc lc : Nat) (D : DM) (m : WM) (hD : DevAt w p b D) (hW : WAt w ww nb sb lb nc sc lc m) (hM : Mt D m) :
    Calls Try.prog 24 #[.pointer (some ⟨p, 0, none⟩), .pointer (some ⟨ww, 0, none⟩)] w fun e w' => e = .returned (.bool true) ∧ Below w.heap.size w w' := by
  have HD := Lib.hid hD
  have HW := Lib.hid hW
  have HM := Lib.hid hM
  have hn8 : m.now.length ≤ 8 := hW.ok.2.2.2.2.2
  have hlt := hD.lt
  have hltw := hW.lt
  clear hD hW hM
  go_enter Try.func24, Try.ntmps24
  go_wp2_with (fail)
  refine (loose_c w p b D HD.out).mono ?_
  rintro e w1 ⟨⟨v, rfl, own⟩, bel⟩
  obtain ⟨al, cl, rfl⟩ := own_form own
  have HD1 := Lib.hid (HD.out.below bel hlt.1 hlt.2)
  have HW1 := Lib.hid (HW.out.keep (Fr.of_below bel))
  have B1 := Lib.hid bel
  have hz1 := bel.size
  have HSI := Lib.hid (Sv.own own)
  have hdl : D.loose.length ≤ 8 := by
    have := looseFrom_le D.secs 0
    have := HM.out.len
    unfold DM.loose
    omega
  have c0 : w1.cell? ⟨ww, 0, none⟩ = some (.slice (some ⟨nb, 0, none⟩) m.now.length nc) := HW1.out.head.cell 0
  clear own bel
  go_wp2_with (fail)
  go_loopg [6, 19] m.now.length (fun q s6 i wr => ∃ k : Nat, k + q = m.now.length ∧ i = .int .i64 (k : Int) ∧ s6 = .int .i64 (((looseFrom (D.secs.take k) 0).length : Nat) : Int) ∧ Below w1.heap.size w1 wr)
  case atStart => exact ⟨0, by omega, rfl, by simp [looseFrom], Below.refl _ _⟩
  case round =>
    obtain ⟨k, hk, rfl, rfl, bel⟩ := hrel
    have BEL := Lib.hid bel
    have hz := bel.size
    have HDr := Lib.hid (HD1.out.below bel (by omega) (by omega))
    have HWr := Lib.hid (HW1.out.keep (Fr.of_below bel))
    clear bel c0
    obtain ⟨cnt, hcnt⟩ : ∃ cnt, Hid ((looseFrom (D.secs.take k) 0).length = cnt) := ⟨_, rfl⟩
    rw [hcnt.out]
    have hcn : cnt ≤ 8 := by
      rw [← hcnt.out]
      have := looseFrom_le (D.secs.take k) 0
      rw [List.length_take] at this
      have := HM.out.len
      omega
    by_cases hlt2 : k < m.now.length
    · have hi2 : (k : Int) < (m.now.length : Int) := by omega
      have hkd : k < D.secs.length := by rw [HM.out.len]; exact hlt2
      have HR := Lib.hid (read_c wr p b D HDr.out k hkd)
      go_wp2_with (fail)
      refine HR.out.mono ?_
      rintro e w2 ⟨⟨g, c, rfl, own⟩, bel2⟩
      have B2 := Lib.hid (BEL.out.trans (bel2.mono hz))
      have hz2 := B2.out.size
      have hW2 := HWr.out.keep (Fr.of_below bel2)
      obtain ⟨vn, n1, _, hown⟩ := hW2.now.get k hlt2
      have hnk : m.now.getD k [] = m.now[k] := by simp [List.getD, List.getElem?_eq_getElem hlt2]
      have hrd : (D.secs[k]).now = m.now[k] := by rw [HM.out.now k hkd, hnk]
      rw [hrd] at own
      obtain ⟨an, cn, rfl⟩ := own_form hown
      have cs1 := fun n => Sl.str ((Sl.of_own own).drewN n)
      have cs2 := fun n => Sl.str ((Sl.of_own hown).drewN n)
      have d0 : w2.cell? ⟨ww, 0, none⟩ = some (.slice (some ⟨nb, 0, none⟩) m.now.length nc) := hW2.head.cell 0
      have d2 : w2.cell? ⟨ww, 2, none⟩ = some (.slice (some ⟨lb, 0, none⟩) m.loose.length lc) := hW2.head.cell 2
      have hll : m.loose.length = m.now.length := hW2.ok.2.1
      have hlc : w2.cell? ⟨lb, k, none⟩ = some (.bool (m.loose.getD k false)) := by
        rw [hW2.loose.cellAt k (by omega)]
        simp [tv, List.getD, List.getElem?_eq_getElem (show k < m.loose.length by omega)]
      have hi3 : (k : Int) < (m.loose.length : Int) := by omega
      have hq : (str (m.now[k]) == str (m.now[k])) = true := by rw [str_beq]; simp
      have hstep := looseFrom_step D.secs k hkd
      have hlb := HM.out.loose k hkd
      have HLA := Lib.hid (loose_at D.secs k hkd)
      clear own bel2 hown hrd hnk hll
      have HSI2 := Lib.hid (Sv.below HSI.out (Nat.le_refl _) B2.out (Nat.le_refl _))
      generalize str (m.now[k]) = ST at *
      generalize (m.now[k]).length = xl at *
      rcases Bool.eq_false_or_eq_true (m.loose.getD k false) with hb | hb
      · rw [hb] at hlc hlb
        rw [hlb, if_pos rfl] at hstep
        have HSTEP := Lib.hid hstep
        have hla := HLA.out hlb
        rw [hcnt.out] at hla
        have hcl : cnt < D.loose.length := by
          rcases Nat.lt_or_ge cnt D.loose.length with h | h
          · exact h
          · unfold DM.loose at h; rw [List.getElem?_eq_none h] at hla; cases hla
        have hi4 : (cnt : Int) < (D.loose.length : Int) := by omega
        obtain ⟨kb, ko, rfl, hkb, hkc⟩ := Sv.at_ HSI2.out (by rw [iv_len]; omega)
        have kc := hkc cnt (by rw [iv_len]; exact hcl)
        have e : (iv D.loose)[cnt]'(by rw [iv_len]; exact hcl) = .int .i64 (k : Int) := by
          have : D.loose[cnt]? = some (k : Int) := hla
          rw [List.getElem?_eq_getElem hcl] at this
          simp [iv, Option.some.inj this]
        rw [e] at kc
        clear hkc e hla hlb hstep hW2
        go_upto_region 7 with (fail)
        go_quiet (fail)
        go_wp2_with (fail)
        go_roundg (m.now.length - (k + 1))
        case measure => omega
        case rel => exact ⟨k + 1, by omega, by go_num, by rw [HSTEP.out, List.length_append, hcnt.out]; go_num, bel_drewN B2.out _⟩
      · rw [hb] at hlc hlb
        rw [hlb, if_neg (by decide), List.append_nil] at hstep
        have HSTEP := Lib.hid hstep
        clear hlb hstep hW2
        go_upto_region 7 with (fail)
        go_quiet (fail)
        go_wp2_with (fail)
        go_roundg (m.now.length - (k + 1))
        case measure => omega
        case rel => exact ⟨k + 1, by omega, by go_num, by rw [HSTEP.out, hcnt.out], bel_drewN B2.out _⟩
    · have e : k = m.now.length := by omega
      have hcd : Hid (cnt = D.loose.length) := by
        show cnt = _
        rw [← hcnt.out, e, ← HM.out.len, List.take_length]
        rfl
      have HRO := Lib.hid (read_out wr p b D HDr.out (m.now.length : Int) (.inr (by rw [HM.out.len]; exact Int.le_refl _)))
      have d0 : wr.cell? ⟨ww, 0, none⟩ = some (.slice (some ⟨nb, 0, none⟩) m.now.length nc) := HWr.out.head.cell 0
      have d3 : wr.cell? ⟨ww, 3, none⟩ = some (.int .i64 (m.calls : Int)) := HWr.out.head.cell 3
      have KC := Lib.hid (fun n => calls_c (wr.drewN n) p b D (HDr.out.fr ((Fr.refl [] _).drewN n) (by simp) (by simp)))
      have KD := Lib.hid (fun n => dead_c (wr.drewN n) p b D (HDr.out.fr ((Fr.refl [] _).drewN n) (by simp) (by simp)))
      have KW := Lib.hid (fun n => wdead_c (wr.drewN n) ww nb sb lb nc sc lc m (HWr.out.keep ((Fr.refl [] _).drewN n)))
      rw [HM.out.calls] at KC
      rw [HM.out.dead] at KD
      have hq1 : ((cnt : Int) == (D.loose.length : Int)) = true := by rw [hcd.out]; simp
      have hq2 : ((m.calls : Int) == (m.calls : Int)) = true := by simp
      obtain ⟨dd, hdd⟩ : ∃ dd, Hid (m.isDead = dd) := ⟨_, rfl⟩
      rw [hdd.out] at KD KW
      have hq3 : (dd == dd) = true := by simp
      have hcd' := hcd.out
      go_wp2_with (fail)
      refine HRO.out.mono ?_
      rintro e w' ⟨rfl, rfl⟩
      go_upto_region 15 with (fail)
      go_quiet ((first | (go_at_call 28; exact quiet_same (KC.out _)) | (go_at_call 29; exact quiet_same (KD.out _)) | (go_at_call 16; exact quiet_same (KW.out _))))
      go_wp2_with (fail)
      go_ret
      exact ⟨rfl, bel_drewN (B1.out.trans (BEL.out.mono hz1)) _⟩
end Go.Proofs.Ytchibinlcedjaaa
