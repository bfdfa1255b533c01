import Derived.Test.YtchibinlcedjaaaF1
import Derived.Test.YtchibinlcedjaaaS11
namespace Go.Proofs.Ytchibinlcedjaaa
open Go.RowKit
/-- What stands in a row of one's own, as a block that is known whole. -/
theorem own_bl {w : World} {base g n cap : Nat} {e : TypeId} {xs : List Value} (h : w.ownsRow base e 1 (.slice (some ⟨g, 0, none⟩) n cap) n xs) : ∃ cs, Bl w g e cs ∧ cs.length = cap ∧ cs.take n = xs ∧ n ≤ cap ∧ cap ≤ maxLen := by
  obtain ⟨_, ⟨h, _⟩ | ⟨g', cap', cur, h, _, hg, h1, h2, h3, h4⟩⟩ := h
  · cases h
  · injection h with h e2 e3
    injection h with h
    injection h with h
    subst h e3
    refine ⟨cur.toList, by unfold Bl; simpa using hg, by simpa using h3, by simpa using h4, h1, h2⟩
theorem bl_own {w : World} {g n : Nat} {e : TypeId} {cs : List Value} (h : Bl w g e cs) (hn : n ≤ cs.length) (hc : cs.length ≤ maxLen) : w.ownsRow 0 e 1 (.slice (some ⟨g, 0, none⟩) n cs.length) n (cs.take n) :=
  ⟨by simp; omega, .inr ⟨g, cs.length, cs.toArray, rfl, Nat.zero_le _, h, hn, hc, by simp, by simp⟩⟩
theorem splice_wput (cs : List Value) (x l : List UInt8) (h : cs.take x.length = bv x) (hl : l.length ≤ x.length) : (splice cs 0 ((bv l).take x.length)).take x.length = bv (l ++ x.drop l.length) := by
  have e1 : (bv l).take x.length = bv l := List.take_of_length_le (by rw [bv_len]; exact hl)
  rw [e1]
  unfold splice
  simp only [List.take_zero, List.nil_append, Nat.zero_add]
  rw [List.take_append, List.take_of_length_le (by rw [bv_len]; exact hl), bv_len, ← bv_app, ← List.drop_take, h]
  simp [bv]
theorem one_block {w : World} {b : Nat} {t : TypeId} (h : Ty w b t) (ht : t ≠ 5) : ∀ k ∈ [b], ∃ t, Ty w k t ∧ t ≠ 5 := by
  intro k hk
  simp only [List.mem_cons, List.not_mem_nil, or_false] at hk
  subst hk
  exact ⟨t, h, ht⟩
theorem own_other {w w' : World} {g n cap : Nat} {e : TypeId} {xs : List Value} {b : Nat} (h : w.ownsRow 0 e 1 (.slice (some ⟨g, 0, none⟩) n cap) n xs) (f : Fr [b] w w') (hne : g ≠ b) : w'.ownsRow 0 e 1 (.slice (some ⟨g, 0, none⟩) n cap) n xs :=
  ownsRow_fr h f fun k hk hm => by
    injection hk with hk
    change g = k at hk
    simp only [List.mem_cons, List.not_mem_nil, or_false] at hm
    omega
theorem set_len64 {N : List (List UInt8)} (h : ∀ x ∈ N, x.length = 64) (i : Nat) {l : List UInt8} (hl : l.length = 64) : ∀ x ∈ N.set i l, x.length = 64 := by
  intro x hx
  rcases List.mem_or_eq_of_mem_set hx with h1 | h1
  · exact h x h1
  · subst h1; exact hl
section
variable {w : World} {ww nb sb lb nc sc lc : Nat} {m : WM}
theorem WAt.setNow (h : WAt w ww nb sb lb nc sc lc m) (i : Nat) (v : Value) (l : List UInt8) (hl : l.length = 64) (hv : w.ownsRow 0 5 1 v l.length (bv l)) : WAt (w.setCell ⟨nb, i, none⟩ v) ww nb sb lb nc sc lc { m with now := m.now.set i l } := by
  have f : Fr [nb] w (w.setCell ⟨nb, i, none⟩ v) := (Fr.refl [nb] w).setCell (by simp) v
  have hn := h.nes
  obtain ⟨o1, o2, o3, o4, o5, o6⟩ := h.ok
  refine ⟨?_, h.now.set i v l hv, h.safe.fr f (by simpa using h.ne.symm) (one_block h.now.ty (by decide)), own_other h.loose f (by omega), h.ne, by simpa using o1, by simpa using o2, set_len64 o3 i hl, o4, by simpa using o5, by simpa using o6⟩
  have := h.head.fr f (by simp; omega)
  simpa using this
theorem WAt.setSafe (h : WAt w ww nb sb lb nc sc lc m) (i : Nat) (v : Value) (l : List UInt8) (hl : l.length = 64) (hv : w.ownsRow 0 5 1 v l.length (bv l)) : WAt (w.setCell ⟨sb, i, none⟩ v) ww nb sb lb nc sc lc { m with safe := m.safe.set i l } := by
  have f : Fr [sb] w (w.setCell ⟨sb, i, none⟩ v) := (Fr.refl [sb] w).setCell (by simp) v
  have hn := h.nes
  obtain ⟨o1, o2, o3, o4, o5, o6⟩ := h.ok
  refine ⟨?_, h.now.fr f (by simpa using h.ne) (one_block h.safe.ty (by decide)), h.safe.set i v l hv, own_other h.loose f (by omega), h.ne, by simpa using o1, o2, o3, set_len64 o4 i hl, o5, o6⟩
  have := h.head.fr f (by simp; omega)
  simpa using this
theorem WAt.setLoose (h : WAt w ww nb sb lb nc sc lc m) (i : Nat) (c : Bool) : WAt (w.setCell ⟨lb, i, none⟩ (.bool c)) ww nb sb lb nc sc lc { m with loose := m.loose.set i c } := by
  have f : Fr [lb] w (w.setCell ⟨lb, i, none⟩ (.bool c)) := (Fr.refl [lb] w).setCell (by simp) _
  have hn := h.nes
  obtain ⟨o1, o2, o3, o4, o5, o6⟩ := h.ok
  have ht := one_block (Ty.own h.loose) (by decide : (4 : TypeId) ≠ 5)
  refine ⟨?_, h.now.fr f (by simp; omega) ht, h.safe.fr f (by simp; omega) ht, ?_, h.ne, o1, by simpa using o2, o3, o4, o5, o6⟩
  · have := h.head.fr f (by simp; omega)
    simpa using this
  · have := (h.loose.stored i (.bool c)).1
    simpa [tv, List.map_set] using this
end
def wput (l b : List UInt8) : List UInt8 := b ++ l.drop b.length
theorem wput_len {l b : List UInt8} (hl : l.length = 64) (hb : b.length ≤ 64) : (wput l b).length = 64 := by simp [wput]; omega
def WM.write (m : WM) (i : Nat) (b : List UInt8) : WM := ({ m with now := m.now.set i (wput (m.now.getD i []) b), loose := m.loose.set i true } : WM).next
set_option maxHeartbeats 4000000 in
theorem writes_c (w : World) (ww nb sb lb nc sc lc : Nat) (m : WM) (h : WAt w ww nb sb lb nc sc lc m) (hc : m.calls ≤ 1000000) (hf : -1 ≤ m.fuse) (hf2 : m.fuse ≤ 9223372036854775807) (i : Nat) (hi : i < m.now.length) (v : Value) (l : List UInt8) (hl : l.length ≤ 64)
    (B : Nat) (hv : Sl w B v l) (hB : B ≤ w.heap.size) :
    Calls Try.prog 18 #[.pointer (some ⟨ww, 0, none⟩), .int .i64 (i : Int), v] w fun e w' => e = .returned (.tuple #[]) ∧ WAt w' ww nb sb lb nc sc lc (m.write i l) ∧ Fr [ww, nb, lb] w w' := by
  obtain ⟨av, cv, rfl, _⟩ := Sv.form hv
  have c0 : w.cell? ⟨ww, 0, none⟩ = some (.slice (some ⟨nb, 0, none⟩) m.now.length nc) := h.head.cell 0
  obtain ⟨vi, ci, fi, hown⟩ := h.now.get i hi
  have hx64 : (m.now[i]).length = 64 := h.ok.2.2.1 _ (List.getElem_mem hi)
  have hgd : m.now.getD i [] = m.now[i] := by simp [List.getD, List.getElem?_eq_getElem hi]
  have hn8 : m.now.length ≤ 8 := h.ok.2.2.2.2.2
  have hOld := Sl.of_own hown
  obtain ⟨ai, cpi, rfl⟩ := own_form hown
  have HOLD := Lib.hid hOld
  have H := Lib.hid h
  have HV := Lib.hid hv
  have hlt := h.lt
  generalize m.now[i] = x at *
  have HX64 := Lib.hid hx64
  have HGD := Lib.hid hgd
  clear h hown hOld hv hx64 hgd
  go_enter Try.func18, Try.ntmps18
  go_wp2_with (at_builtin; refine wpList_app (.const (.slice none 0 0)) (.tmp 13) 31 rfl rfl w.heap.size 5 (.int .u8 0) 1 Try.underlying31 info5 rfl (.slice none 0 0) 0 [] rfl ⟨rfl, .inl ⟨rfl, rfl⟩⟩ _ x.length w.heap.size (bv x) rfl HOLD.out (bv_one _) ?a5 ?a6 (Nat.le_refl _) ?_)
  case a5 => have := HX64.out; unfold maxLen; omega
  case a6 => have := HX64.out; omega
  intro v2 w2 own2 g2
  obtain ⟨g, cap, rfl, hg⟩ : ∃ g cap, v2 = .slice (some ⟨g, 0, none⟩) x.length cap ∧ w.heap.size ≤ g := by
    obtain ⟨_, ⟨_, h⟩ | ⟨g, cap, _, h, hg, _⟩⟩ := own2
    · have := HX64.out; omega
    · exact ⟨g, cap, h, hg⟩
  obtain ⟨cs, hbl, hcl, htk, hnc, hcm⟩ := own_bl own2
  have hf2w : Fr [] w w2 := (Fr.refl [] w).grown g2 (by simp [Value.ownBlock])
  have HV2 := Lib.hid (Sv.below HV.out hB hf2w.nil hB)
  have HBL := Lib.hid hbl
  have HCL := Lib.hid hcl
  have HTK := Lib.hid htk
  have HF2 := Lib.hid hf2w
  clear own2 g2 hbl hcl htk hf2w
  go_upto_region 2 with (refine wpList_copy_seg (.tmp 15) (.tmp 16) 31 31 rfl rfl 5 Try.underlying31 size5 g 0 x.length cap 5 cs rfl HBL.out _ _ l.length (bv l) rfl HV2.out (bv_one _) (by have := HCL.out; omega) ?_; intro w3 hb3 f3; have HB3 := Lib.hid hb3; have F3 := Lib.hid (HF2.out.past f3 hg); clear hb3 f3)
  have hsp : (splice cs 0 ((bv l).take x.length)).length = cap := by
    rw [length_splice _ _ _ (by have := HCL.out; rw [List.length_take, bv_len]; omega)]
    exact HCL.out
  have hown := bl_own HB3.out (n := x.length) (by rw [hsp]; exact hnc) (by rw [hsp]; exact hcm)
  rw [hsp, splice_wput cs x l HTK.out (by have := HX64.out; omega)] at hown
  have hwl : (wput x l).length = x.length := by rw [wput_len HX64.out hl, HX64.out]
  have hown3 : w3.ownsRow 0 5 1 (.slice (some ⟨g, 0, none⟩) x.length cap) (wput x l).length (bv (wput x l)) := by rw [hwl]; exact hown
  have hat := H.out.keep F3.out
  have hst := ((hat.setNow i _ _ (by rw [hwl]; exact HX64.out) hown3).setLoose i true)
  have HW1 := Lib.hid hst
  have hnn : nb ≠ lb ∧ ww ≠ nb ∧ ww ≠ lb := by have := H.out.nes; omega
  have hlo := hat.loose
  have hll : m.loose.length = m.now.length := H.out.ok.2.1
  have c0' : w3.drew.cell? ⟨ww, 0, none⟩ = some (.slice (some ⟨nb, 0, none⟩) m.now.length nc) := hat.head.drew.cell 0
  have c2' : w3.drew.cell? ⟨ww, 2, none⟩ = some (.slice (some ⟨lb, 0, none⟩) m.loose.length lc) := hat.head.drew.cell 2
  obtain ⟨v5, k1, k2, _⟩ := hat.now.get i hi
  have k1' : w3.drew.cell? ⟨nb, i, none⟩ = some v5 := k1
  have k2' : w3.drew.frozen? ⟨nb, i, none⟩ = false := k2
  obtain ⟨v6, k3⟩ : ∃ v6, w3.drew.cell? ⟨lb, i, none⟩ = some v6 := ⟨_, by rw [show w3.drew.cell? ⟨lb, i, none⟩ = w3.cell? ⟨lb, i, none⟩ from rfl, hlo.cellAt i (by omega), List.getElem?_eq_getElem (by rw [tv_len]; omega)]⟩
  have k4 : w3.drew.frozen? ⟨lb, i, none⟩ = false := hlo.frozenAt i
  have k3' : w3.cell? ⟨lb, i, none⟩ = some v6 := k3
  have k4' : w3.frozen? ⟨lb, i, none⟩ = false := k4
  have hi2 : (i : Int) < (m.now.length : Int) := by omega
  have hi3 : (i : Int) < (m.loose.length : Int) := by omega
  have HF3 := Lib.hid (((F3.out.mono (T := [ww, nb, lb]) (by simp)).setCell (p := ⟨nb, i, none⟩) (by simp) (.slice (some ⟨g, 0, none⟩) x.length cap)).setCell (p := ⟨lb, i, none⟩) (by simp) (.bool true))
  have HLL := Lib.hid hll
  clear hown hown3 hat hst hlo k1 k2 c0 ci fi hsp hwl hll
  go_simp
  go_cut [] (fun wx => WAt wx ww nb sb lb nc sc lc { m with now := m.now.set i (wput x l), loose := m.loose.set i true } ∧ Fr [ww, nb, lb] w wx)
  case first =>
    go_region
    all_goals
      go_wp2_with (fail)
      go_meet
      exact ⟨HW1.out.keep ((Fr.refl [] _).drew), HF3.out.drew⟩
  case rest =>
    obtain ⟨hw, hfr⟩ := hcut
    have HFR := Lib.hid hfr
    have HN := Lib.hid (next_c wc ww nb sb lb nc sc lc _ hw hc hf hf2)
    clear hw hfr HW1 HF3 hnn c0' c2' k1' k2' k3 k4 k3' k4'
    go_wp2_with (fail)
    refine HN.out.mono ?_
    rintro e w5 ⟨rfl, h5, f5⟩
    have H5 := Lib.hid h5
    have F5 := Lib.hid (HFR.out.trans (f5.mono (by simp)))
    clear h5 f5
    go_wp2_with (fail)
    go_end0
    refine ⟨rfl, ?_, F5.out⟩
    unfold WM.write
    rw [HGD.out]
    exact H5.out
end Go.Proofs.Ytchibinlcedjaaa
