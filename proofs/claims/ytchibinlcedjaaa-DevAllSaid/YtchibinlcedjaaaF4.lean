import Derived.Test.YtchibinlcedjaaaF3
namespace Go.Proofs.Ytchibinlcedjaaa
open Go.RowKit
def WM.cstep (keep : List Bool) (s : WM × Nat) (i : Nat) : WM × Nat :=
  if s.1.loose.getD i false = false then s else
    let m1 : WM := if keep.getD s.2 false = true then { s.1 with safe := s.1.safe.set i (s.1.now.getD i []) } else s.1
    ({ m1 with now := m1.now.set i (m1.safe.getD i []), loose := m1.loose.set i false }, s.2 + 1)
def WM.cr (m : WM) (keep : List Bool) : Nat → WM × Nat
  | 0 => (m, 0)
  | k + 1 => WM.cstep keep (m.cr keep k) k
def WM.crash (m : WM) (keep : List Bool) : WM := { (m.cr keep m.now.length).1 with calls := 0, fuse := -1 }
theorem cstep_len (keep : List Bool) (s : WM × Nat) (i : Nat) : (WM.cstep keep s i).1.now.length = s.1.now.length ∧ (WM.cstep keep s i).1.calls = s.1.calls ∧ (WM.cstep keep s i).1.fuse = s.1.fuse ∧ (WM.cstep keep s i).2 ≤ s.2 + 1 := by
  unfold WM.cstep
  split
  · exact ⟨rfl, rfl, rfl, by omega⟩
  · simp only
    split <;> simp
theorem cr_len (m : WM) (keep : List Bool) : ∀ k, (m.cr keep k).1.now.length = m.now.length ∧ (m.cr keep k).2 ≤ k
  | 0 => ⟨rfl, Nat.le_refl _⟩
  | k + 1 => by
    have h := cr_len m keep k
    have g := cstep_len keep (m.cr keep k) k
    exact ⟨g.1.trans h.1, by have := g.2.2.2; rw [WM.cr]; omega⟩
/-- Lies now[i] = safe[i], loose[i] = false. -/
theorem WAt.fall {w : World} {ww nb sb lb nc sc lc : Nat} {m : WM} (h : WAt w ww nb sb lb nc sc lc m) (i : Nat) (hi : i < m.now.length) : ∃ v, w.cell? ⟨sb, i, none⟩ = some v ∧ (∃ a n c, v = .slice a n c) ∧ WAt ((w.setCell ⟨nb, i, none⟩ v).setCell ⟨lb, i, none⟩ (.bool false)) ww nb sb lb nc sc lc { m with now := m.now.set i (m.safe.getD i []), loose := m.loose.set i false } := by
  have his : i < m.safe.length := by rw [h.ok.1]; exact hi
  obtain ⟨v, h1, _, h3⟩ := h.safe.get i his
  have hgd : m.safe.getD i [] = m.safe[i] := by simp [List.getD, List.getElem?_eq_getElem his]
  have h64 : (m.safe[i]).length = 64 := h.ok.2.2.2.1 _ (List.getElem_mem his)
  refine ⟨v, h1, ?_, ?_⟩
  · obtain ⟨a, c, rfl⟩ := own_form h3
    exact ⟨_, _, _, rfl⟩
  · rw [hgd]
    exact (h.setNow i v _ h64 h3).setLoose i false
/-- Lies safe[i] = now[i]. -/
theorem WAt.lasts {w : World} {ww nb sb lb nc sc lc : Nat} {m : WM} (h : WAt w ww nb sb lb nc sc lc m) (i : Nat) (hi : i < m.now.length) : ∃ v, w.cell? ⟨nb, i, none⟩ = some v ∧ (∃ a n c, v = .slice a n c) ∧ WAt (w.setCell ⟨sb, i, none⟩ v) ww nb sb lb nc sc lc { m with safe := m.safe.set i (m.now.getD i []) } := by
  obtain ⟨v, h1, _, h3⟩ := h.now.get i hi
  have hgd : m.now.getD i [] = m.now[i] := by simp [List.getD, List.getElem?_eq_getElem hi]
  have h64 : (m.now[i]).length = 64 := h.ok.2.2.1 _ (List.getElem_mem hi)
  refine ⟨v, h1, ?_, ?_⟩
  · obtain ⟨a, c, rfl⟩ := own_form h3
    exact ⟨_, _, _, rfl⟩
  · rw [hgd]
    exact h.setSafe i v _ h64 h3
/-- What a region that loads and stores in these rows wants to know. -/
structure Near (w : World) (ww nb sb lb nc sc lc i n : Nat) : Prop where
  c0 : w.cell? ⟨ww, 0, none⟩ = some (.slice (some ⟨nb, 0, none⟩) n nc)
  c1 : w.cell? ⟨ww, 1, none⟩ = some (.slice (some ⟨sb, 0, none⟩) n sc)
  c2 : w.cell? ⟨ww, 2, none⟩ = some (.slice (some ⟨lb, 0, none⟩) n lc)
  n1 : ∃ v, w.cell? ⟨nb, i, none⟩ = some v
  n2 : w.frozen? ⟨nb, i, none⟩ = false
  s1 : ∃ v, w.cell? ⟨sb, i, none⟩ = some v
  s2 : w.frozen? ⟨sb, i, none⟩ = false
  l1 : ∃ v, w.cell? ⟨lb, i, none⟩ = some v
  l2 : w.frozen? ⟨lb, i, none⟩ = false
theorem WAt.near {w : World} {ww nb sb lb nc sc lc : Nat} {m : WM} (h : WAt w ww nb sb lb nc sc lc m) (i n : Nat) (hn : m.now.length = n) (hi : i < n) : Near w ww nb sb lb nc sc lc i n := by
  subst hn
  have h1 := h.ok.1
  have h2 := h.ok.2.1
  obtain ⟨v1, k1, k2, _⟩ := h.now.get i hi
  obtain ⟨v2, k3, k4, _⟩ := h.safe.get i (by omega)
  obtain ⟨v3, k5⟩ : ∃ v, w.cell? ⟨lb, i, none⟩ = some v := ⟨_, by rw [h.loose.cellAt i (by omega), List.getElem?_eq_getElem (by rw [tv_len]; omega)]⟩
  refine ⟨h.head.cell 0, ?_, ?_, ⟨v1, k1⟩, k2, ⟨v2, k3⟩, k4, ⟨v3, k5⟩, h.loose.frozenAt i⟩
  · have := h.head.cell 1; rw [h1] at this; exact this
  · have := h.head.cell 2; rw [h2] at this; exact this
theorem WAt.end_ {w w' : World} {ww nb sb lb nc sc lc : Nat} {m : WM} (h : WAt w ww nb sb lb nc sc lc m) (c : Nat) (f : Int) (hb : Bl w' ww 30 [.slice (some ⟨nb, 0, none⟩) m.now.length nc, .slice (some ⟨sb, 0, none⟩) m.safe.length sc, .slice (some ⟨lb, 0, none⟩) m.loose.length lc, .int .i64 (c : Int), .int .i64 f]) (fr : Fr [ww] w w') : WAt w' ww nb sb lb nc sc lc { m with calls := c, fuse := f } := by
  have hn := h.nes
  have hS := one_block (Ty.bl h.head) (by decide : (30 : TypeId) ≠ 5)
  exact ⟨hb, h.now.fr fr (by simp; omega) hS, h.safe.fr fr (by simp; omega) hS, own_other h.loose fr (by omega), h.ne, h.ok⟩
set_option maxHeartbeats 8000000 in
theorem crashes_c (w : World) (ww nb sb lb nc sc lc : Nat) (m : WM) (h : WAt w ww nb sb lb nc sc lc m) (B : Nat) (vk : Value) (kl : List Bool) (hv : Sb w B vk kl) (hB : B ≤ w.heap.size) (hBw : B ≤ ww ∧ B ≤ nb ∧ B ≤ sb ∧ B ≤ lb) :
    Calls Try.prog 22 #[.pointer (some ⟨ww, 0, none⟩), vk] w fun e w' => e = .returned (.tuple #[]) ∧ WAt w' ww nb sb lb nc sc lc (m.crash kl) ∧ Fr [ww, nb, sb, lb] w w' := by
  have c00 : w.cell? ⟨ww, 0, none⟩ = some (.slice (some ⟨nb, 0, none⟩) m.now.length nc) := h.head.cell 0
  have hn8 : m.now.length ≤ 8 := h.ok.2.2.2.2.2
  have hnn : nb ≠ sb ∧ nb ≠ lb ∧ sb ≠ lb ∧ ww ≠ sb ∧ ww ≠ lb ∧ ww ≠ nb := by have := h.nes; have := h.ne; omega
  obtain ⟨ak, ck, rfl, hkl⟩ := Sv.form hv
  have H := Lib.hid h
  have HV := Lib.hid hv
  clear h hv
  go_enter Try.func22, Try.ntmps22
  go_wp2_with (fail)
  go_loopg [4, 11] m.now.length (fun q s4 i wr => ∃ k : Nat, k + q = m.now.length ∧ i = .int .i64 (k : Int) ∧ s4 = .int .i64 ((m.cr kl k).2 : Int) ∧ WAt wr ww nb sb lb nc sc lc (m.cr kl k).1 ∧ Fr [ww, nb, sb, lb] w wr)
  case atStart => exact ⟨0, by omega, rfl, rfl, H.out, Fr.refl _ _⟩
  case round =>
    obtain ⟨k, hk, rfl, rfl, hw, fr⟩ := hrel
    have HW := Lib.hid hw
    have FR := Lib.hid fr
    have HLEN := Lib.hid (cr_len m kl k).1
    have hcnt := (cr_len m kl k).2
    have HSV := Lib.hid (Sv.below HV.out (Nat.le_refl _) (fr.below hB (by simp; omega)) (Nat.le_refl _))
    clear hw fr
    obtain ⟨M1, cnt, hS⟩ : ∃ M1 cnt, Hid (m.cr kl k = (M1, cnt)) := ⟨_, _, rfl⟩
    rw [hS.out] at HW HLEN hcnt ⊢
    simp only at HW HLEN hcnt ⊢
    by_cases hlt : k < m.now.length
    · have hi2 : (k : Int) < (m.now.length : Int) := by omega
      have hll : k < M1.loose.length := by have := HW.out.ok.2.1; have := HLEN.out; omega
      have hlc : wr.cell? ⟨lb, k, none⟩ = some (.bool (M1.loose.getD k false)) := by
        rw [HW.out.loose.cellAt k (by omega)]
        simp [tv, List.getD, List.getElem?_eq_getElem hll]
      rcases Bool.eq_false_or_eq_true (M1.loose.getD k false) with hb | hb
      · rw [hb] at hlc
        by_cases hc : cnt < kl.length
        · have hi5 : (cnt : Int) < (kl.length : Int) := by omega
          obtain ⟨kb, ko, rfl, hkb, hkc⟩ := Sv.at_ HSV.out (by rw [tv_len]; omega)
          have kc := hkc cnt (by rw [tv_len]; exact hc)
          have e : (tv kl)[cnt]'(by rw [tv_len]; exact hc) = .bool (kl.getD cnt false) := by simp [tv, List.getD, List.getElem?_eq_getElem hc]
          rw [e] at kc
          clear hkc e
          rcases Bool.eq_false_or_eq_true (kl.getD cnt false) with hkeep | hkeep
          · rw [hkeep] at kc
            have HNEXT : Hid (m.cr kl (k + 1) = ({ M1 with safe := M1.safe.set k (M1.now.getD k []), now := M1.now.set k ((M1.safe.set k (M1.now.getD k [])).getD k []), loose := M1.loose.set k false }, cnt + 1)) := by
              show WM.cstep kl (m.cr kl k) k = _
              rw [hS.out]
              unfold WM.cstep
              simp only
              rw [if_neg (by rw [hb]; decide), if_pos hkeep]
            obtain ⟨vq, hvq, ⟨aq, nq, cq, rfl⟩, hlast⟩ := HW.out.lasts k (by have := HLEN.out; omega)
            have HLAST := Lib.hid (hlast.keep ((Fr.refl [] _).drew))
            have HFR6 := Lib.hid (FR.out.setCell (p := ⟨sb, k, none⟩) (by simp) (.slice aq nq cq)).drew
            clear hlast
            obtain ⟨c0, c1, c2, ⟨vn, n1⟩, n2, ⟨vs, s1⟩, s2, ⟨vl, l1⟩, l2⟩ := (HW.out.near k m.now.length HLEN.out hlt)
            have c0' : wr.drew.cell? ⟨ww, 0, none⟩ = some (.slice (some ⟨nb, 0, none⟩) m.now.length nc) := c0
            have c1' : wr.drew.cell? ⟨ww, 1, none⟩ = some (.slice (some ⟨sb, 0, none⟩) m.now.length sc) := c1
            have c2' : wr.drew.cell? ⟨ww, 2, none⟩ = some (.slice (some ⟨lb, 0, none⟩) m.now.length lc) := c2
            have n1' : wr.drew.cell? ⟨nb, k, none⟩ = some vn := n1
            have n2' : wr.drew.frozen? ⟨nb, k, none⟩ = false := n2
            have s1' : wr.drew.cell? ⟨sb, k, none⟩ = some vs := s1
            have s2' : wr.drew.frozen? ⟨sb, k, none⟩ = false := s2
            have l1' : wr.drew.cell? ⟨lb, k, none⟩ = some vl := l1
            have l2' : wr.drew.frozen? ⟨lb, k, none⟩ = false := l2
            rw [hvq] at n1
            injection n1 with n1
            subst n1
            clear hvq
            go_upto_region 6 with (fail)
            go_region
            go_upto_region 7 with (fail)
            generalize (wr.setCell ⟨sb, k, none⟩ (.slice aq nq cq)).drew = w6 at *
            clear c0 c1 c2 n2 s1 s2 l1 l2 c0' c1' c2' n1' n2' s1' s2' l1' l2'
            obtain ⟨vf, hvf, ⟨af, nf, cf, rfl⟩, hfall⟩ := HLAST.out.fall k (by show k < M1.now.length; have := HLEN.out; omega)
            have HFALL := Lib.hid hfall
            have HFR8 := Lib.hid ((HFR6.out.setCell (p := ⟨nb, k, none⟩) (by simp) (.slice af nf cf)).setCell (p := ⟨lb, k, none⟩) (by simp) (.bool false))
            clear hfall
            obtain ⟨c0, c1, c2, ⟨vn, n1⟩, n2, ⟨vs, s1⟩, s2, ⟨vl, l1⟩, l2⟩ := (HLAST.out.near k m.now.length (by show M1.now.length = m.now.length; exact HLEN.out) hlt)
            have c0' : w6.drew.cell? ⟨ww, 0, none⟩ = some (.slice (some ⟨nb, 0, none⟩) m.now.length nc) := c0
            have c1' : w6.drew.cell? ⟨ww, 1, none⟩ = some (.slice (some ⟨sb, 0, none⟩) m.now.length sc) := c1
            have c2' : w6.drew.cell? ⟨ww, 2, none⟩ = some (.slice (some ⟨lb, 0, none⟩) m.now.length lc) := c2
            have n1' : w6.drew.cell? ⟨nb, k, none⟩ = some vn := n1
            have n2' : w6.drew.frozen? ⟨nb, k, none⟩ = false := n2
            have s1' : w6.drew.cell? ⟨sb, k, none⟩ = some vs := s1
            have s2' : w6.drew.frozen? ⟨sb, k, none⟩ = false := s2
            have l1' : w6.drew.cell? ⟨lb, k, none⟩ = some vl := l1
            have l2' : w6.drew.frozen? ⟨lb, k, none⟩ = false := l2
            rw [hvf] at s1
            injection s1 with s1
            subst s1
            clear hvf
            go_upto_region 8 with (fail)
            go_region
            go_wp2_with (fail)
            go_roundg (m.now.length - (k + 1))
            case measure => omega
            case rel => exact ⟨k + 1, by omega, by go_num, by rw [HNEXT.out]; go_num, by rw [HNEXT.out]; exact HFALL.out.keep ((Fr.refl [] _).drew), HFR8.out.drew⟩

          · rw [hkeep] at kc
            have HNEXT : Hid (m.cr kl (k + 1) = ({ M1 with now := M1.now.set k (M1.safe.getD k []), loose := M1.loose.set k false }, cnt + 1)) := by
              show WM.cstep kl (m.cr kl k) k = _
              rw [hS.out]
              unfold WM.cstep
              simp only
              rw [if_neg (by rw [hb]; decide), if_neg (by rw [hkeep]; decide)]
            obtain ⟨vf, hvf, ⟨af, nf, cf, rfl⟩, hfall⟩ := HW.out.fall k (by show k < M1.now.length; have := HLEN.out; omega)
            have HFALL := Lib.hid hfall
            have HFR8 := Lib.hid ((FR.out.setCell (p := ⟨nb, k, none⟩) (by simp) (.slice af nf cf)).setCell (p := ⟨lb, k, none⟩) (by simp) (.bool false))
            clear hfall
            obtain ⟨c0, c1, c2, ⟨vn, n1⟩, n2, ⟨vs, s1⟩, s2, ⟨vl, l1⟩, l2⟩ := (HW.out.near k m.now.length (by show M1.now.length = m.now.length; exact HLEN.out) hlt)
            have c0' : wr.drew.cell? ⟨ww, 0, none⟩ = some (.slice (some ⟨nb, 0, none⟩) m.now.length nc) := c0
            have c1' : wr.drew.cell? ⟨ww, 1, none⟩ = some (.slice (some ⟨sb, 0, none⟩) m.now.length sc) := c1
            have c2' : wr.drew.cell? ⟨ww, 2, none⟩ = some (.slice (some ⟨lb, 0, none⟩) m.now.length lc) := c2
            have n1' : wr.drew.cell? ⟨nb, k, none⟩ = some vn := n1
            have n2' : wr.drew.frozen? ⟨nb, k, none⟩ = false := n2
            have s1' : wr.drew.cell? ⟨sb, k, none⟩ = some vs := s1
            have s2' : wr.drew.frozen? ⟨sb, k, none⟩ = false := s2
            have l1' : wr.drew.cell? ⟨lb, k, none⟩ = some vl := l1
            have l2' : wr.drew.frozen? ⟨lb, k, none⟩ = false := l2
            rw [hvf] at s1
            injection s1 with s1
            subst s1
            clear hvf
            go_upto_region 8 with (fail)
            go_region
            go_wp2_with (fail)
            go_roundg (m.now.length - (k + 1))
            case measure => omega
            case rel => exact ⟨k + 1, by omega, by go_num, by rw [HNEXT.out]; go_num, by rw [HNEXT.out]; exact HFALL.out.keep ((Fr.refl [] _).drew), HFR8.out.drew⟩

        · have hi5 : (kl.length : Int) ≤ (cnt : Int) := by omega
          have hkeep : kl.getD cnt false = false := by simp [List.getD, List.getElem?_eq_none (show kl.length ≤ cnt by omega)]
          have HNEXT : Hid (m.cr kl (k + 1) = ({ M1 with now := M1.now.set k (M1.safe.getD k []), loose := M1.loose.set k false }, cnt + 1)) := by
            show WM.cstep kl (m.cr kl k) k = _
            rw [hS.out]
            unfold WM.cstep
            simp only
            rw [if_neg (by rw [hb]; decide), if_neg (by rw [hkeep]; decide)]
          obtain ⟨vf, hvf, ⟨af, nf, cf, rfl⟩, hfall⟩ := HW.out.fall k (by show k < M1.now.length; have := HLEN.out; omega)
          have HFALL := Lib.hid hfall
          have HFR8 := Lib.hid ((FR.out.setCell (p := ⟨nb, k, none⟩) (by simp) (.slice af nf cf)).setCell (p := ⟨lb, k, none⟩) (by simp) (.bool false))
          clear hfall
          obtain ⟨c0, c1, c2, ⟨vn, n1⟩, n2, ⟨vs, s1⟩, s2, ⟨vl, l1⟩, l2⟩ := (HW.out.near k m.now.length (by show M1.now.length = m.now.length; exact HLEN.out) hlt)
          have c0' : wr.drew.cell? ⟨ww, 0, none⟩ = some (.slice (some ⟨nb, 0, none⟩) m.now.length nc) := c0
          have c1' : wr.drew.cell? ⟨ww, 1, none⟩ = some (.slice (some ⟨sb, 0, none⟩) m.now.length sc) := c1
          have c2' : wr.drew.cell? ⟨ww, 2, none⟩ = some (.slice (some ⟨lb, 0, none⟩) m.now.length lc) := c2
          have n1' : wr.drew.cell? ⟨nb, k, none⟩ = some vn := n1
          have n2' : wr.drew.frozen? ⟨nb, k, none⟩ = false := n2
          have s1' : wr.drew.cell? ⟨sb, k, none⟩ = some vs := s1
          have s2' : wr.drew.frozen? ⟨sb, k, none⟩ = false := s2
          have l1' : wr.drew.cell? ⟨lb, k, none⟩ = some vl := l1
          have l2' : wr.drew.frozen? ⟨lb, k, none⟩ = false := l2
          rw [hvf] at s1
          injection s1 with s1
          subst s1
          clear hvf
          go_upto_region 8 with (fail)
          go_region
          go_wp2_with (fail)
          go_roundg (m.now.length - (k + 1))
          case measure => omega
          case rel => exact ⟨k + 1, by omega, by go_num, by rw [HNEXT.out]; go_num, by rw [HNEXT.out]; exact HFALL.out.keep ((Fr.refl [] _).drew), HFR8.out.drew⟩

      · rw [hb] at hlc
        have HNEXT : Hid (m.cr kl (k + 1) = (M1, cnt)) := by
          show WM.cstep kl (m.cr kl k) k = _
          rw [hS.out]
          unfold WM.cstep
          rw [if_pos hb]
        obtain ⟨c0, c1, c2, _, _, _, _, _, _⟩ := HW.out.near k m.now.length HLEN.out hlt
        go_wp2_with (fail)
        go_roundg (m.now.length - (k + 1))
        case measure => omega
        case rel => exact ⟨k + 1, by omega, by go_num, by rw [HNEXT.out], by rw [HNEXT.out]; exact HW.out, FR.out⟩

    · have e : k = m.now.length := by omega
      have hcr : (m.cr kl m.now.length).1 = M1 := by rw [← e, hS.out]
      have d3 := HW.out.head.cell 3
      have d4 := HW.out.head.cell 4
      have d3' : wr.cell? ⟨ww, 3, none⟩ = some (.int .i64 (M1.calls : Int)) := d3
      have d4' : wr.cell? ⟨ww, 4, none⟩ = some (.int .i64 M1.fuse) := d4
      have q3 := HW.out.head.free 3
      have q4 := HW.out.head.free 4
      have hend := HW.out.end_ 0 (-1) ((HW.out.head.set 3 (.int .i64 0)).set 4 (.int .i64 (-1))) (((Fr.refl [ww] wr).setCell (by simp) _).setCell (by simp) _)
      have HEND := Lib.hid hend
      have HFR9 := Lib.hid ((FR.out.setCell (p := ⟨ww, 3, none⟩) (by simp) (.int .i64 0)).setCell (p := ⟨ww, 4, none⟩) (by simp) (.int .i64 (-1)))
      clear hend d3 d4
      go_wp2_with (fail)
      go_end0
      refine ⟨rfl, ?_, HFR9.out⟩
      unfold WM.crash
      rw [hcr]
      exact HEND.out
end Go.Proofs.Ytchibinlcedjaaa
