import Derived.Test.YtaogloegiffioaaGreatDoorV4
set_option linter.all false
namespace Go.Proofs.YtaogloegiffioaaGreatDoor.V
open Go.RowKit
theorem Sl.fr_p {w w' : World} {B p b : Nat} {D : DM} {v : Value} {l : List UInt8} (h : Sl w B v l) (hd : Bl w p 149 (D.head b)) (f : Fr [p] w w') : Sl w' w'.heap.size v l := by
  obtain ⟨hl, hm, a, cap, e, h0, h1, hn, h2⟩ := h
  refine ⟨hl, hm, a, cap, e, h0, h1, hn, ?_⟩
  rcases h2 with h2 | ⟨b', off, e1, hb, hc⟩
  · exact .inl h2
  · rcases Nat.eq_zero_or_pos l.length with h0 | h0
    · exact .inl (by rw [List.eq_nil_of_length_eq_zero h0]; rfl)
    · have c0 := hc 0 (by rw [bv_len]; exact h0)
      have hlt := lt_of_cell c0
      simp only at hlt
      have hne : b' ≠ p := by
        intro e
        subst e
        rw [hd.cell] at c0
        have e0 : (bv l)[0]'(by rw [bv_len]; exact h0) = .int .u8 (l[0].toNat : Int) := by simp [bv]
        rw [e0] at c0
        have hmem := List.mem_of_getElem? c0
        simp [DM.head] at hmem
      refine .inr ⟨b', off, e1, by have := f.size; omega, fun i hi => ?_⟩
      rw [← hc i hi]
      exact World.cell?_of_block (f.block b' hlt (by simpa using hne))
theorem put_splice (s : Sec) (hs : s.Ok) (l : List UInt8) (hl : l.length ≤ 64) : splice s.cells 0 (bv l) = ({ s with now := l ++ s.now.drop l.length } : Sec).cells := by
  have h1 : s.now.length = 64 := hs.1
  have h3 : List.drop l.length (bv s.now) = bv (s.now.drop l.length) := by simp [bv, List.map_drop]
  unfold splice Sec.cells
  simp only [List.take_zero, List.nil_append, Nat.zero_add, bv_len, List.append_assoc]
  rw [List.drop_append_of_le_length (by rw [bv_len]; omega), h3, ← bv_app]
  simp only [List.append_assoc]
theorem loose_set (s : Sec) (hs : s.Ok) (x : Bool) : s.cells.set 128 (.bool x) = ({ s with loose := x } : Sec).cells := by
  have h1 : s.now.length = 64 := hs.1
  have h2 : s.lasts.length = 64 := hs.2
  unfold Sec.cells
  rw [List.set_append_right _ _ (by simp [bv_len]; omega)]
  congr 1
  simp [bv_len, h1, h2]
theorem splice_one (cs : List Value) (i : Nat) (hi : i < cs.length) (u : Value) : splice cs i [u] = cs.set i u := by
  rw [List.set_eq_take_append_cons_drop, if_pos hi]
  rfl
theorem modify_at (l : List Sec) (i : Nat) (hi : i < l.length) (f : Sec → Sec) : l.modify i f = l.set i (f l[i]) := by
  apply List.ext_getElem
  · simp
  · intro j h1 h2
    simp only [List.getElem_modify, List.getElem_set]
    split
    · next e => subst e; rfl
    · rfl
theorem put_ok {s : Sec} (hs : s.Ok) (l : List UInt8) (hl : l.length ≤ 64) : (s.put l).Ok := by
  have h1 : s.now.length = 64 := hs.1
  exact ⟨by simp [Sec.put]; omega, hs.2⟩
theorem write_c (w : World) (p b : Nat) (D : DM) (h : DevAt w p b D) (hd : D.isDead = false) (hcl : D.calls ≤ 1000000) (i : Nat) (hi : i < D.secs.length) (B : Nat) (v : Value) (l : List UInt8) (hv : Sl w B v l) (hl : l.length ≤ 64) :
    Calls Tryz.prog 179 #[.pointer (some ⟨p, 0, none⟩), .int .i64 (i : Int), v] w fun e w' => e = .returned (.int .i64 0) ∧ DevAt w' p b (D.write i l) ∧ Fr [p, b] w w' := by
  have HD := Lib.hid (dead_c w p b D h)
  rw [hd] at HD
  have HAT := Lib.hid (at_in w p b D h i (by omega) (by omega))
  have HBU := Lib.hid (burns_c w p b D h hd hcl)
  have hlen := h.2.2.2.2.1
  have H := Lib.hid h
  have HV := Lib.hid hv
  have hne := h.ne
  obtain ⟨av, cv, rfl, _⟩ := Sv.form hv
  clear h hd hcl hv
  go_enter Tryz.func179, Tryz.ntmps179
  go_wp2_with (first | (go_at_call 173; refine (HD.out).mono ?_; rintro e w' ⟨rfl, rfl⟩) | (go_at_call 248; refine (HAT.out).mono ?_; rintro e w' ⟨rfl, rfl⟩))
  refine HBU.out.mono ?_
  rintro e w1 ⟨rfl, h1, f1⟩
  obtain ⟨c0, _, _, _, _⟩ := h1.cells
  have hv1 := HV.out.fr_p H.out.1 f1
  have hs1 : (secCells D.secs).length = D.secs.length * 129 := secCells_len _ h1.2.2.1
  have HV1 := Lib.hid hv1
  have H1 := Lib.hid h1
  have F1 := Lib.hid f1
  simp only [DM.burned] at c0
  have HG : Hid (∀ (w2 : World), Bl w2 b 253 (splice (secCells D.secs) (i * 129) ((bv l).take 64)) → ∃ u, w2.cell? ⟨b, i * 129 + 128, none⟩ = some u) := by
    intro w2 hb2
    rw [hb2.cell]
    have : i * 129 + 128 < (splice (secCells D.secs) (i * 129) ((bv l).take 64)).length := by
      rw [length_splice _ _ _ (by rw [List.length_take, bv_len]; omega)]; omega
    exact ⟨_, List.getElem?_eq_getElem this⟩
  clear hv1 h1 f1
  go_wp2_with (refine wpList_copy_seg (.tmp 28) (.tmp 29) 54 54 rfl rfl 5 Tryz.underlying54 size5 b (i * 129) 64 64 253 (secCells D.secs) rfl H1.out.2.1 _ _ l.length (bv l) rfl HV1.out (bv_one _) (by omega) ?_; intro w2 hb2 f2; have c20 := ((H1.out.1.fr f2 (by simpa using hne)).cell 0); obtain ⟨u, hu⟩ := HG.out w2 hb2; have fu := hb2.free (i * 129 + 128); have HB2 := Lib.hid hb2; have F2 := Lib.hid f2; clear hb2 f2; change w2.cell? ⟨p, 0, none⟩ = some (.slice (some ⟨b, 0, none⟩) D.secs.length D.secs.length) at c20)
  go_ret
  have hb2 := HB2.out
  have hokD := H1.out.2.2.1
  have e1 : (bv l).take 64 = bv l := List.take_of_length_le (by rw [bv_len]; omega)
  rw [e1] at hb2
  have hoki := hokD _ (List.getElem_mem hi)
  have hsp := secCells_splice D.secs hokD i hi 0 (bv l) (by rw [bv_len]; omega) _ (put_splice _ hoki l hl)
  rw [Nat.add_zero] at hsp
  rw [hsp] at hb2
  have hb3 := hb2.set (i * 129 + 128) (.bool true)
  have hokset : ∀ s ∈ D.secs.set i { D.secs[i] with now := l ++ (D.secs[i]).now.drop l.length }, s.Ok := by
    intro s hs
    rcases List.mem_or_eq_of_mem_set hs with h | h
    · exact hokD s h
    · subst h
      have h1 : (D.secs[i]).now.length = 64 := hoki.1
      exact ⟨by simp; omega, hoki.2⟩
  have hl2 := secCells_len _ hokset
  have hi2 : i < (D.secs.set i { D.secs[i] with now := l ++ (D.secs[i]).now.drop l.length }).length := by simpa using hi
  have hokset2 := hokset _ (List.getElem_mem hi2)
  rw [← splice_one _ _ (by rw [hl2]; omega), secCells_splice _ hokset i hi2 128 [.bool true] (by simp) _ (by rw [splice_one _ _ (by rw [Sec.cells_len hokset2]; omega)]; exact loose_set _ hokset2 true), List.set_set, List.getElem_set_self] at hb3
  refine ⟨rfl, ⟨?_, ?_, ?_⟩, ?_⟩
  · have := (H1.out.1.fr F2.out (by simpa using hne)).setOther (p := ⟨b, i * 129 + 128, none⟩) hne (.bool true)
    refine cast (congrArg (Bl _ p 149) ?_) this
    simp [DM.head, DM.write, DM.burned]
  · refine cast (congrArg (fun l => Bl _ b 253 (secCells l)) ?_) hb3
    rw [DM.write, modify_at _ _ hi]
    rfl
  · obtain ⟨o1, o2, o3, o4⟩ := H1.out.2.2
    refine ⟨fun s hs => ?_, by simpa [DM.write, DM.burned] using o2, by simpa [DM.write, DM.burned] using o3, o4⟩
    rw [DM.write, modify_at _ _ hi] at hs
    rcases List.mem_or_eq_of_mem_set hs with h | h
    · exact o1 s h
    · subst h
      exact put_ok hoki l hl
  · exact ((F1.out.mono (by simp)).trans (F2.out.mono (by simp))).setCell (by simp) _
end Go.Proofs.YtaogloegiffioaaGreatDoor.V
