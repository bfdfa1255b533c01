import Derived.Test.YtchibinlcedjaaaF2
namespace Go.Proofs.Ytchibinlcedjaaa
open Go.RowKit
def WM.fl (m : WM) : Nat → WM
  | 0 => m
  | k + 1 => { m.fl k with safe := (m.fl k).safe.set k ((m.fl k).now.getD k []), loose := (m.fl k).loose.set k false }
theorem WM.fl_is (m : WM) (h1 : m.safe.length = m.now.length) (h2 : m.loose.length = m.now.length) : ∀ k, k ≤ m.now.length → m.fl k = { m with safe := m.now.take k ++ m.safe.drop k, loose := List.replicate k false ++ m.loose.drop k }
  | 0, _ => by simp [WM.fl]
  | k + 1, hk => by
    rw [WM.fl, WM.fl_is m h1 h2 k (by omega)]
    have e1 : (m.now.take k ++ m.safe.drop k).set k (m.now.getD k []) = m.now.take (k + 1) ++ m.safe.drop (k + 1) := by
      rw [List.set_append_right _ _ (by simp; omega), show k - (m.now.take k).length = 0 by simp; omega, List.drop_eq_getElem_cons (show k < m.safe.length by omega), List.set_cons_zero, List.take_succ_eq_append_getElem (show k < m.now.length by omega)]
      simp only [List.getD, List.getElem?_eq_getElem (show k < m.now.length by omega), Option.getD_some, List.append_assoc, List.singleton_append]
    have e2 : (List.replicate k false ++ m.loose.drop k).set k false = List.replicate (k + 1) false ++ m.loose.drop (k + 1) := by
      rw [List.set_append_right _ _ (by simp), show k - (List.replicate k false).length = 0 by simp, List.drop_eq_getElem_cons (show k < m.loose.length by omega), List.set_cons_zero, List.replicate_succ']
      simp
    simp only
    rw [e1, e2]
theorem WM.fl_now (m : WM) : ∀ k, (m.fl k).now = m.now ∧ (m.fl k).calls = m.calls ∧ (m.fl k).fuse = m.fuse
  | 0 => ⟨rfl, rfl, rfl⟩
  | k + 1 => WM.fl_now m k
def WM.flush (m : WM) : WM := ({ m with safe := m.now, loose := List.replicate m.now.length false } : WM).next
set_option maxHeartbeats 4000000 in
theorem flushes_c (w : World) (ww nb sb lb nc sc lc : Nat) (m : WM) (h : WAt w ww nb sb lb nc sc lc m) (hc : m.calls ≤ 1000000) (hf : -1 ≤ m.fuse) (hf2 : m.fuse ≤ 9223372036854775807) :
    Calls Try.prog 19 #[.pointer (some ⟨ww, 0, none⟩)] w fun e w' => e = .returned (.tuple #[]) ∧ WAt w' ww nb sb lb nc sc lc m.flush ∧ Fr [ww, sb, lb] w w' := by
  have c0 : w.cell? ⟨ww, 0, none⟩ = some (.slice (some ⟨nb, 0, none⟩) m.now.length nc) := h.head.cell 0
  have hn8 : m.now.length ≤ 8 := h.ok.2.2.2.2.2
  have H := Lib.hid h
  clear h
  go_enter Try.func19, Try.ntmps19
  go_wp2_with (fail)
  go_loopg [8] m.now.length (fun q i wr => ∃ k : Nat, k + q = m.now.length ∧ i = .int .i64 (k : Int) ∧ WAt wr ww nb sb lb nc sc lc (m.fl k) ∧ Fr [ww, sb, lb] w wr)
  case atStart => exact ⟨0, by omega, rfl, H.out, Fr.refl _ _⟩
  case round =>
    obtain ⟨k, hk, rfl, hw, fr⟩ := hrel
    have HW := Lib.hid hw
    have FR := Lib.hid fr
    obtain ⟨e1, e2, e3⟩ := m.fl_now k
    by_cases hlt : k < m.now.length
    · have hi2 : (k : Int) < (m.now.length : Int) := by omega
      have hnn : sb ≠ lb ∧ ww ≠ sb ∧ ww ≠ lb ∧ nb ≠ sb ∧ nb ≠ lb := by have := hw.nes; have := hw.ne; omega
      have hks : k < (m.fl k).safe.length := by rw [hw.ok.1, e1]; exact hlt
      have hkl : k < (m.fl k).loose.length := by rw [hw.ok.2.1, e1]; exact hlt
      have hkn : k < (m.fl k).now.length := by rw [e1]; exact hlt
      have c0' : wr.drew.cell? ⟨ww, 0, none⟩ = some (.slice (some ⟨nb, 0, none⟩) m.now.length nc) := by have := hw.head.drew.cell 0; rw [e1] at this; exact this
      obtain ⟨ls, hls⟩ : ∃ ls, Hid ((m.fl k).safe.length = ls) := ⟨_, rfl⟩
      obtain ⟨ll, hll⟩ : ∃ ls, Hid ((m.fl k).loose.length = ls) := ⟨_, rfl⟩
      have c1' : wr.drew.cell? ⟨ww, 1, none⟩ = some (.slice (some ⟨sb, 0, none⟩) ls sc) := by rw [← hls.out]; exact hw.head.drew.cell 1
      have c2' : wr.drew.cell? ⟨ww, 2, none⟩ = some (.slice (some ⟨lb, 0, none⟩) ll lc) := by rw [← hll.out]; exact hw.head.drew.cell 2
      have hi3 : (k : Int) < (ls : Int) := by rw [← hls.out]; omega
      have hi4 : (k : Int) < (ll : Int) := by rw [← hll.out]; omega
      obtain ⟨vn, k1, _, hown⟩ := hw.now.get k hkn
      obtain ⟨vs, k3, k4, k7⟩ := hw.safe.get k hks
      have hlo := hw.loose
      obtain ⟨vl, k5⟩ : ∃ v6, wr.cell? ⟨lb, k, none⟩ = some v6 := ⟨_, by rw [hlo.cellAt k (by omega), List.getElem?_eq_getElem (by rw [tv_len]; omega)]⟩
      have k6 := hlo.frozenAt k
      obtain ⟨an, cn, rfl⟩ := own_form hown
      have hx64 : ((m.fl k).now[k]).length = 64 := hw.ok.2.2.1 _ (List.getElem_mem hkn)
      have hst := (hw.setSafe k _ _ hx64 hown).setLoose k false
      have hgd : (m.fl k).now.getD k [] = (m.fl k).now[k] := by simp [List.getD, List.getElem?_eq_getElem hkn]
      have hst2 : WAt ((wr.setCell ⟨sb, k, none⟩ (.slice an ((m.fl k).now[k]).length cn)).setCell ⟨lb, k, none⟩ (.bool false)) ww nb sb lb nc sc lc (m.fl (k + 1)) := by
        rw [WM.fl, hgd]; exact hst
      have HST := Lib.hid hst2
      have hfr2 := ((fr.setCell (p := ⟨sb, k, none⟩) (by simp) (.slice an ((m.fl k).now[k]).length cn)).setCell (p := ⟨lb, k, none⟩) (by simp) (.bool false))
      have HFR := Lib.hid hfr2
      have k1' : wr.drew.cell? ⟨nb, k, none⟩ = some (.slice an ((m.fl k).now[k]).length cn) := k1
      have k3' : wr.drew.cell? ⟨sb, k, none⟩ = some vs := k3
      have k4' : wr.drew.frozen? ⟨sb, k, none⟩ = false := k4
      have k5' : wr.drew.cell? ⟨lb, k, none⟩ = some vl := k5
      have k6' : wr.drew.frozen? ⟨lb, k, none⟩ = false := k6
      clear k7
      clear hw fr hown hst hst2 hfr2 hlo hgd hx64 e1 e2 e3 hks hkl c0
      generalize ((m.fl k).now[k]).length = xl at *
      go_upto_region 3 with (fail)
      go_region
      go_wp2_with (fail)
      go_roundg (m.now.length - (k + 1))
      case measure => omega
      case rel => exact ⟨k + 1, by omega, by go_num, HST.out.keep ((Fr.refl [] _).drew), HFR.out.drew⟩
    · have e : k = m.now.length := by omega
      have hfl : m.fl k = { m with safe := m.now, loose := List.replicate m.now.length false } := by
        have ho := H.out.ok
        rw [WM.fl_is m ho.1 ho.2.1 k (by omega), e, List.take_length, List.drop_of_length_le (by rw [ho.1]; exact Nat.le_refl _), List.drop_of_length_le (by rw [ho.2.1]; exact Nat.le_refl _), List.append_nil, List.append_nil]
      rw [hfl] at hw
      have HN := Lib.hid (next_c wr ww nb sb lb nc sc lc _ hw hc hf hf2)
      clear hw fr hfl e1 e2 e3 HW c0
      go_wp2_with (fail)
      refine HN.out.mono ?_
      rintro e w5 ⟨rfl, h5, f5⟩
      have H5 := Lib.hid h5
      have F5 := Lib.hid (FR.out.trans (f5.mono (by simp)))
      clear h5 f5
      go_wp2_with (fail)
      go_end0
      exact ⟨rfl, H5.out, F5.out⟩
end Go.Proofs.Ytchibinlcedjaaa
