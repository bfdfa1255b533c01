import Derived.Test.YtjokghnlmaaejaaJ4
namespace Go.Proofs.Ytjokghnlmaaejaa
open Go.RowKit
theorem Fr.nil_of {w wr w' : World} (h : Fr [] wr w') (b : Below w.heap.size w wr) : Below w.heap.size w w' := b.trans (h.nil.mono b.size)
/-! ### slices.Equal, judge.Same, judge.Get -/
theorem bytes_ne {x y : ByteArray} (h : ¬ x = y) : (x.toList == y.toList) = false := by
  rw [Lib.toList_data, Lib.toList_data, beq_eq_false_iff_ne]
  intro e
  exact h (ByteArray.ext (Array.toList_inj.1 e))
theorem pr_eta (p : PR) : p = ⟨p.k, ⟨p.v.kind, p.v.n, p.v.s⟩⟩ := rfl
set_option maxHeartbeats 2000000 in
theorem equal_c (w : World) (v1 v2 : Value) (a b : List PR) (h1 : Sp w w.heap.size v1 a) (h2 : Sp w w.heap.size v2 b) :
    Calls Try.prog 29 #[v1, v2] w fun e w' => e = .returned (.bool (decide (a = b))) ∧ Below w.heap.size w w' := by
  obtain ⟨a1, cap1, rfl, hl1⟩ := h1.form
  obtain ⟨a2, cap2, rfl, hl2⟩ := h2.form
  have H1 := Lib.hid h1
  have H2 := Lib.hid h2
  clear h1 h2
  by_cases hlen : a.length = b.length
  · have hd : decide (a = b) = decide (∀ k, k < a.length → a[k]? = b[k]?) := by
      congr 1
      apply propext
      constructor
      · rintro rfl; intros; rfl
      · intro h
        apply List.ext_getElem? 
        intro i
        rcases Nat.lt_or_ge i a.length with hi | hi
        · exact h i hi
        · rw [List.getElem?_eq_none hi, List.getElem?_eq_none (by omega)]
    have hyes : (∀ k, k < a.length → a[k]? = b[k]?) → decide (a = b) = true := fun h => by rw [hd]; simpa using h
    have hno : ∀ k, k < a.length → a[k]? ≠ b[k]? → decide (a = b) = false := fun k hk h => by
      rw [hd]
      simp only [decide_eq_false_iff_not]
      intro h2
      exact h (h2 k hk)
    have hi : (a.length : Int) = (b.length : Int) := by omega
    have HYES := Lib.hid hyes
    have HNO := Lib.hid hno
    clear hyes hno hd
    generalize decide (a = b) = ans at *
    go_enter Try.func29, Try.ntmps29
    go_wp2_with (fail)
    go_loopg [13] a.length (fun q i wr => ∃ k : Nat, k + q = a.length ∧ i = .int .i64 (k : Int) ∧ (∀ j, j < k → a[j]? = b[j]?) ∧ Below w.heap.size w wr)
    case atStart => exact ⟨0, by omega, rfl, by simp, Below.refl _ _⟩
    case round =>
      obtain ⟨k, hk, rfl, hok, bel⟩ := hrel
      have BEL := Lib.hid bel
      have hwz := bel.size
      by_cases hlt : k < a.length
      · have hlt2 : k < b.length := by omega
        obtain ⟨b1, off1, rfl, hb1, c0, c1, c2, c3⟩ := H1.out.at_ k hlt
        obtain ⟨b2, off2, rfl, hb2, d0, d1, d2, d3⟩ := H2.out.at_ k hlt2
        have i4 : (k : Int) < (a.length : Int) := by omega
        have i5 : (k : Int) < (b.length : Int) := by omega
        rw [← bel.cell (p := ⟨b1, off1 + k * 4, none⟩) hb1] at c0
        rw [← bel.cell (p := ⟨b1, off1 + k * 4 + 1, none⟩) hb1] at c1
        rw [← bel.cell (p := ⟨b1, off1 + k * 4 + 2, none⟩) hb1] at c2
        rw [← bel.cell (p := ⟨b1, off1 + k * 4 + 3, none⟩) hb1] at c3
        rw [← bel.cell (p := ⟨b2, off2 + k * 4, none⟩) hb2] at d0
        rw [← bel.cell (p := ⟨b2, off2 + k * 4 + 1, none⟩) hb2] at d1
        rw [← bel.cell (p := ⟨b2, off2 + k * 4 + 2, none⟩) hb2] at d2
        rw [← bel.cell (p := ⟨b2, off2 + k * 4 + 3, none⟩) hb2] at d3
        clear bel
        have hn := HNO.out k hlt
        have hy : a[k] = b[k] → ∀ j, j < k + 1 → a[j]? = b[j]? := fun h j hj => by
          rcases (by omega : j < k ∨ j = k) with h1 | rfl
          · exact hok j h1
          · rw [List.getElem?_eq_getElem hlt, List.getElem?_eq_getElem hlt2, h]
        rw [List.getElem?_eq_getElem hlt, List.getElem?_eq_getElem hlt2] at hn
        have hn2 : a[k] ≠ b[k] → ans = false := fun h => hn (fun e => h (Option.some.inj e))
        generalize a[k] = x at *
        generalize b[k] = y at *
        obtain ⟨x0, x1, x2, x3⟩ := x
        obtain ⟨y0, y1, y2, y3⟩ := y
        simp only [PR.mk.injEq, Raw.mk.injEq, ne_eq] at c0 c1 c2 c3 d0 d1 d2 d3 hy hn2
        clear hn hok
        by_cases e0 : x0 = y0
        · by_cases e1 : x1 = y1
          · by_cases e2 : x2 = y2
            · by_cases e3 : x3 = y3
              · have HY := Lib.hid (hy (by simp [e0, e1, e2, e3]))
                clear hy hn2
                subst e0 e1 e2 e3
                go_wp2_with (fail)
                go_quiet (fail)
                go_wp2_with (fail)
                go_roundg (a.length - (k + 1))
                case measure => omega
                case rel => exact ⟨k + 1, by omega, by go_num, HY.out, (Fr.drewN (Fr.refl [] _) _).nil_of BEL.out⟩
              · subst e0 e1 e2
                have HA := Lib.hid (hn2 (by intro h; exact e3 (by simp [h])))
                have f3 : (x3.toList == y3.toList) = false := bytes_ne e3
                have f4 : ¬ x3.toList = y3.toList := fun h => e3 (by rw [Lib.toList_data, Lib.toList_data] at h; exact ByteArray.ext (Array.toList_inj.1 h))
                clear hy hn2
                go_wp2_with (fail)
                go_quiet (fail)
                go_wp2_with (fail)
                go_ret
                exact ⟨by rw [HA.out]; rfl, (Fr.drewN (Fr.refl [] _) _).nil_of BEL.out⟩
            · subst e0 e1
              have HA := Lib.hid (hn2 (by intro h; exact e2 (by simp [h])))
              clear hy hn2
              go_wp2_with (fail)
              go_quiet (fail)
              go_wp2_with (fail)
              go_ret
              exact ⟨by rw [HA.out]; rfl, (Fr.drewN (Fr.refl [] _) _).nil_of BEL.out⟩
          · subst e0
            have HA := Lib.hid (hn2 (by intro h; exact e1 (by simp [h])))
            clear hy hn2
            go_wp2_with (fail)
            go_quiet (fail)
            go_wp2_with (fail)
            go_ret
            exact ⟨by rw [HA.out]; rfl, (Fr.drewN (Fr.refl [] _) _).nil_of BEL.out⟩
        · have HA := Lib.hid (hn2 (by intro h; exact e0 (by simp [h])))
          have f3 : (x0.toList == y0.toList) = false := bytes_ne e0
          have f4 : ¬ x0.toList = y0.toList := fun h => e0 (by rw [Lib.toList_data, Lib.toList_data] at h; exact ByteArray.ext (Array.toList_inj.1 h))
          clear hy hn2
          go_wp2_with (fail)
          go_quiet (fail)
          go_wp2_with (fail)
          go_ret
          exact ⟨by rw [HA.out]; rfl, (Fr.drewN (Fr.refl [] _) _).nil_of BEL.out⟩
      · have HA := Lib.hid (HYES.out fun j hj => hok j (by omega))
        clear bel hok
        go_wp2_with (fail)
        go_ret
        exact ⟨by rw [HA.out]; rfl, BEL.out⟩
  · have hd : decide (a = b) = false := by
      simp
      intro e
      exact hlen (congrArg List.length e)
    have HD := Lib.hid hd
    have hi : ¬ (a.length : Int) = (b.length : Int) := by omega
    clear hd
    go_enter Try.func29, Try.ntmps29
    go_wp2_with (fail)
    go_ret
    exact ⟨by rw [HD.out]; rfl, Below.refl _ _⟩
theorem same_c (w : World) (v1 v2 : Value) (a b : List PR) (h1 : Sp w w.heap.size v1 a) (h2 : Sp w w.heap.size v2 b) :
    Calls Try.prog 15 #[v1, v2] w fun e w' => e = .returned (.bool (decide (a = b))) ∧ Below w.heap.size w w' := by
  have H := Lib.hid (equal_c w v1 v2 a b h1 h2)
  clear h1 h2
  go_enter Try.func15, Try.ntmps15
  go_wp2_with (fail)
  refine H.out.mono ?_
  rintro e w' ⟨rfl, bel⟩
  have B := Lib.hid bel
  clear bel
  go_wp2_with (fail)
  go_ret
  exact ⟨rfl, B.out⟩
def getF (l : List PR) (k : ByteArray) : Raw × Bool := match l.find? (fun p => decide (p.k = k)) with
  | some p => (p.v, true)
  | none => (raw0, false)
theorem getF_yes {l : List PR} {k : ByteArray} {i : Nat} (h : i < l.length) (h1 : ∀ j (hj : j < i), l[j].k ≠ k) (h2 : l[i].k = k) : getF l k = (l[i].v, true) := by
  unfold getF
  have : l.find? (fun p => decide (p.k = k)) = some l[i] := by
    rw [List.find?_eq_some_iff_getElem]
    exact ⟨by simpa using h2, i, h, rfl, fun j hj => by simpa using h1 j hj⟩
  rw [this]
theorem getF_no {l : List PR} {k : ByteArray} (h1 : ∀ j (hj : j < l.length), l[j].k ≠ k) : getF l k = (raw0, false) := by
  unfold getF
  have : l.find? (fun p => decide (p.k = k)) = none := by
    rw [List.find?_eq_none]
    intro p hp
    obtain ⟨j, hj, rfl⟩ := List.getElem_of_mem hp
    simpa using h1 j hj
  rw [this]
theorem load24 {w : World} {b : Nat} {x y z : Value} (h : Bl w b 24 [x, y, z]) : (loadVar 24 ⟨b, 0, none⟩).run Try.prog w = .ok (.agg #[x, y, z]) w :=
  run_load_seg (m := 3) h Try.underlying24 rfl (by kernel_rfl) (by simp)
set_option maxHeartbeats 2000000 in
theorem get_c (w : World) (v : Value) (l : List PR) (k : ByteArray) (h : Sp w w.heap.size v l) :
    Calls Try.prog 11 #[v, .string k] w fun e w' => e = .returned (.tuple #[rawV (getF l k).1, .bool (getF l k).2]) ∧ Below w.heap.size w w' := by
  obtain ⟨a, cap, rfl, hl⟩ := h.form
  have hr : Bl (w.alloc (.cells #[.int .i64 0, .int .i64 0, .string ⟨#[]⟩] 24)) w.heap.size 24 [.int .i64 0, .int .i64 0, .string ⟨#[]⟩] := Bl.new w 24 _
  have hb : Below w.heap.size w (w.alloc (.cells #[.int .i64 0, .int .i64 0, .string ⟨#[]⟩] 24)) := (Below.refl _ _).alloc (Nat.le_refl _) _
  have H := Lib.hid h
  clear h
  go_enter Try.func11, Try.ntmps11
  go_upto_region 1 with (fail)
  generalize w.alloc (.cells #[.int .i64 0, .int .i64 0, .string ⟨#[]⟩] 24) = w2 at *
  have hlt := hr.lt
  have HR := Lib.hid hr
  have HB := Lib.hid hb
  clear hr hb
  go_wp2_with (fail)
  go_loopg [10] l.length (fun q i wr => ∃ j : Nat, j + q = l.length ∧ i = .int .i64 (j : Int) ∧ (∀ t (ht : t < l.length), t < j → l[t].k ≠ k) ∧ Below w2.heap.size w2 wr)
  case atStart => exact ⟨0, by omega, rfl, by simp, Below.refl _ _⟩
  case round =>
    obtain ⟨j, hj, rfl, hok, bel⟩ := hrel
    have BEL := Lib.hid bel
    have hwz := bel.size
    have hwz0 := HB.out.size
    by_cases hjl : j < l.length
    · obtain ⟨b, off, rfl, hb, c0, c1, c2, c3⟩ := H.out.at_ j hjl
      have i4 : (j : Int) < (l.length : Int) := by omega
      have bel2 := HB.out.trans (bel.mono hwz0)
      rw [← bel2.cell (p := ⟨b, off + j * 4, none⟩) hb] at c0
      rw [← bel2.cell (p := ⟨b, off + j * 4 + 1, none⟩) hb] at c1
      rw [← bel2.cell (p := ⟨b, off + j * 4 + 2, none⟩) hb] at c2
      rw [← bel2.cell (p := ⟨b, off + j * 4 + 3, none⟩) hb] at c3
      clear bel bel2
      have hyes := getF_yes (k := k) hjl (fun t ht => hok t (by omega) ht)
      have hnx : l[j].k ≠ k → ∀ t (ht : t < l.length), t < j + 1 → l[t].k ≠ k := fun h t ht ht2 => by
        rcases (by omega : t < j ∨ t = j) with h1 | rfl
        · exact hok t ht h1
        · exact h
      clear hok
      generalize l[j] = x at *
      obtain ⟨x0, x1, x2, x3⟩ := x
      simp only at c0 c1 c2 c3 hyes hnx
      have HYES := Lib.hid hyes
      have HNX := Lib.hid hnx
      clear hyes hnx
      go_upto_region 4 with (fail)
      have hbx : Bl (wr.alloc (.cells #[.string x0, .int .i64 x1, .int .i64 x2, .string x3] 48)) wr.heap.size 48 [.string x0, .int .i64 x1, .int .i64 x2, .string x3] := Bl.new _ _ _
      have BE2 := Lib.hid (BEL.out.alloc hwz (.cells #[.string x0, .int .i64 x1, .int .i64 x2, .string x3] 48))
      clear c0 c1 c2 c3
      generalize wr.alloc (.cells #[.string x0, .int .i64 x1, .int .i64 x2, .string x3] 48) = w3 at *
      have d0 : w3.cell? ⟨wr.heap.size, 0, none⟩ = some (.string x0) := hbx.cell 0
      have d1 : w3.cell? ⟨wr.heap.size, 1, none⟩ = some (.int .i64 x1) := hbx.cell 1
      have d2 : w3.cell? ⟨wr.heap.size, 2, none⟩ = some (.int .i64 x2) := hbx.cell 2
      have d3 : w3.cell? ⟨wr.heap.size, 3, none⟩ = some (.string x3) := hbx.cell 3
      have hv := HR.out.below BE2.out hlt
      have HBX := Lib.hid hbx
      have HV := Lib.hid hv
      clear hbx
      by_cases hk : x0 = k
      · have HG := Lib.hid (HYES.out hk)
        subst hk
        have r0 : w3.cell? ⟨w.heap.size, 0, none⟩ = some (.int .i64 0) := hv.cell 0
        have r1 : w3.cell? ⟨w.heap.size, 1, none⟩ = some (.int .i64 0) := hv.cell 1
        have r2 : w3.cell? ⟨w.heap.size, 2, none⟩ = some (.string ⟨#[]⟩) := hv.cell 2
        have q0 := hv.free 0
        have q1 := hv.free 1
        have q2 := hv.free 2
        clear hv
        go_wp2_with (fail)
        have hv2 : Bl (((w3.setCell ⟨w.heap.size, 0, none⟩ (.int .i64 x1)).setCell ⟨w.heap.size, 1, none⟩ (.int .i64 x2)).setCell ⟨w.heap.size, 2, none⟩ (.string x3)) w.heap.size 24 [.int .i64 x1, .int .i64 x2, .string x3] := ((HV.out.set 0 (.int .i64 x1)).set 1 (.int .i64 x2)).set 2 (.string x3)
        (try simp only [Exit.inBlock, Exit.then])
        refine bodyPost_ret (results_cell_tmp rfl _ _ _ ⟨w.heap.size, 0, none⟩ rfl _ (load24 hv2)) rfl ?_
        rw [HG.out]
        exact ⟨rfl, (((HB.out.trans (BE2.out.mono hwz0)).setCell (Nat.le_refl _) _).setCell (Nat.le_refl _) _).setCell (Nat.le_refl _) _⟩
      · have hk2 := bytes_ne hk
        have HN := Lib.hid (HNX.out hk)
        clear hv
        go_wp2_with (fail)
        go_roundg (l.length - (j + 1))
        case measure => omega
        case rel => exact ⟨j + 1, by omega, by go_num, HN.out, BE2.out⟩
    · have HG := Lib.hid (getF_no (l := l) (k := k) fun t ht => hok t ht (by omega))
      have hv := HR.out.below bel hlt
      have r0 : wr.cell? ⟨w.heap.size, 0, none⟩ = some (.int .i64 0) := hv.cell 0
      have r1 : wr.cell? ⟨w.heap.size, 1, none⟩ = some (.int .i64 0) := hv.cell 1
      have r2 : wr.cell? ⟨w.heap.size, 2, none⟩ = some (.string ⟨#[]⟩) := hv.cell 2
      have q0 := hv.free 0
      have q1 := hv.free 1
      have q2 := hv.free 2
      have HV := Lib.hid hv
      clear hv bel hok
      go_wp2_with (fail)
      have hv2 : Bl (((wr.setCell ⟨w.heap.size, 0, none⟩ (.int .i64 0)).setCell ⟨w.heap.size, 1, none⟩ (.int .i64 0)).setCell ⟨w.heap.size, 2, none⟩ (.string ⟨#[]⟩)) w.heap.size 24 [.int .i64 0, .int .i64 0, .string ⟨#[]⟩] := ((HV.out.set 0 (.int .i64 0)).set 1 (.int .i64 0)).set 2 (.string ⟨#[]⟩)
      (try simp only [Exit.inBlock, Exit.then])
      refine bodyPost_ret (results_cell_tmp rfl _ _ _ ⟨w.heap.size, 0, none⟩ rfl _ (load24 hv2)) rfl ?_
      rw [HG.out]
      exact ⟨rfl, (((HB.out.trans (BEL.out.mono hwz0)).setCell (Nat.le_refl _) _).setCell (Nat.le_refl _) _).setCell (Nat.le_refl _) _⟩
end Go.Proofs.Ytjokghnlmaaejaa
