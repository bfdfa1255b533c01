import Derived.Test.YtjokghnlmaaejaaM2
namespace Go.Proofs.Ytjokghnlmaaejaa
open Go.RowKit
/-! ### EqVal, EqPairs -/
theorem raw_eq (a b : Raw) : decide (a = b) = (decide (a.kind = b.kind) && (decide (a.n = b.n) && decide (a.s = b.s))) := by
  obtain ⟨a1, a2, a3⟩ := a
  obtain ⟨b1, b2, b3⟩ := b
  by_cases h1 : a1 = b1 <;> by_cases h2 : a2 = b2 <;> by_cases h3 : a3 = b3 <;> simp [h1, h2, h3]
set_option maxHeartbeats 1000000 in
theorem eqVal_c (w : World) (a b : Raw) : Calls Try.prog 17 #[rawV a, rawV b] w fun e w' => e = .returned (.bool (decide (a = b))) ∧ Below w.heap.size w w' := by
  have HU := Lib.hid (raw_eq a b)
  generalize decide (a = b) = ans at *
  obtain ⟨x1, x2, x3⟩ := a
  obtain ⟨y1, y2, y3⟩ := b
  simp only [rawV] at *
  have hx : Bl ((w.alloc (.cells #[.int .i64 x1, .int .i64 x2, .string x3] 24)).alloc (.cells #[.int .i64 y1, .int .i64 y2, .string y3] 24)) w.heap.size 24 [.int .i64 x1, .int .i64 x2, .string x3] := (Bl.new w 24 _).alloc _
  have hy : Bl ((w.alloc (.cells #[.int .i64 x1, .int .i64 x2, .string x3] 24)).alloc (.cells #[.int .i64 y1, .int .i64 y2, .string y3] 24)) (w.heap.size + 1) 24 [.int .i64 y1, .int .i64 y2, .string y3] := by
    have := Bl.new (w.alloc (.cells #[.int .i64 x1, .int .i64 x2, .string x3] 24)) 24 [.int .i64 y1, .int .i64 y2, .string y3]
    simpa using this
  have hb : Below w.heap.size w ((w.alloc (.cells #[.int .i64 x1, .int .i64 x2, .string x3] 24)).alloc (.cells #[.int .i64 y1, .int .i64 y2, .string y3] 24)) := ((Below.refl _ _).alloc (Nat.le_refl _) _).alloc (by simp) _
  go_enter Try.func17, Try.ntmps17
  go_upto_region 1 with (fail)
  generalize (w.alloc (.cells #[.int .i64 x1, .int .i64 x2, .string x3] 24)).alloc (.cells #[.int .i64 y1, .int .i64 y2, .string y3] 24) = w2 at *
  have c0 : w2.cell? ⟨w.heap.size, 0, none⟩ = some (.int .i64 x1) := hx.cell 0
  have c1 : w2.cell? ⟨w.heap.size, 1, none⟩ = some (.int .i64 x2) := hx.cell 1
  have c2 : w2.cell? ⟨w.heap.size, 2, none⟩ = some (.string x3) := hx.cell 2
  have d0 : w2.cell? ⟨w.heap.size + 1, 0, none⟩ = some (.int .i64 y1) := hy.cell 0
  have d1 : w2.cell? ⟨w.heap.size + 1, 1, none⟩ = some (.int .i64 y2) := hy.cell 1
  have d2 : w2.cell? ⟨w.heap.size + 1, 2, none⟩ = some (.string y3) := hy.cell 2
  have HB := Lib.hid hb
  clear hx hy hb
  by_cases h1 : x1 = y1
  · by_cases h2 : x2 = y2
    · by_cases h3 : x3 = y3
      · have HE := Lib.hid (show ans = true by rw [HU.out]; simp [h1, h2, h3])
        clear HU
        subst h1 h2 h3
        go_wp2_with (fail)
        go_ret
        exact ⟨by rw [HE.out]; rfl, HB.out⟩
      · have HE := Lib.hid (show ans = false by rw [HU.out]; simp [h3])
        have f3 := bytes_ne h3
        clear HU
        subst h1 h2
        go_wp2_with (fail)
        go_ret
        exact ⟨by rw [HE.out]; rfl, HB.out⟩
    · have HE := Lib.hid (show ans = false by rw [HU.out]; simp [h2])
      clear HU
      subst h1
      go_wp2_with (fail)
      go_ret
      exact ⟨by rw [HE.out]; rfl, HB.out⟩
  · have HE := Lib.hid (show ans = false by rw [HU.out]; simp [h1])
    clear HU
    go_wp2_with (fail)
    go_ret
    exact ⟨by rw [HE.out]; rfl, HB.out⟩
set_option maxHeartbeats 2000000 in
theorem eqPairs_c (w : World) (v1 v2 : Value) (a b : List PR) (h1 : Sp w w.heap.size v1 a) (h2 : Sp w w.heap.size v2 b) :
    Calls Try.prog 16 #[v1, v2] w fun e w' => e = .returned (.bool (decide (a = b))) ∧ Below w.heap.size w w' := by
  obtain ⟨a1, cap1, rfl, hl1⟩ := h1.form
  obtain ⟨a2, cap2, rfl, hl2⟩ := h2.form
  have H1 := Lib.hid h1
  have H2 := Lib.hid h2
  clear h1 h2
  by_cases hlen : a.length = b.length
  · have hd : decide (a = b) = decide (∀ k, k < a.length → a[k]? = b[k]?) := by
      congr 1
      apply propext
      constructor
      · rintro rfl; intros; rfl
      · intro h
        apply List.ext_getElem?
        intro i
        rcases Nat.lt_or_ge i a.length with hi | hi
        · exact h i hi
        · rw [List.getElem?_eq_none hi, List.getElem?_eq_none (by omega)]
    have hyes : (∀ k, k < a.length → a[k]? = b[k]?) → decide (a = b) = true := fun h => by rw [hd]; simpa using h
    have hno : ∀ k, k < a.length → a[k]? ≠ b[k]? → decide (a = b) = false := fun k hk h => by
      rw [hd]
      simp only [decide_eq_false_iff_not]
      intro h2
      exact h (h2 k hk)
    have hi : (a.length : Int) = (b.length : Int) := by omega
    have HYES := Lib.hid hyes
    have HNO := Lib.hid hno
    clear hyes hno hd
    generalize decide (a = b) = ans at *
    go_enter Try.func16, Try.ntmps16
    go_wp2_with (fail)
    go_loopg [5] a.length (fun q i wr => ∃ k : Nat, k + q = a.length ∧ i = .int .i64 (k : Int) ∧ (∀ j, j < k → a[j]? = b[j]?) ∧ Below w.heap.size w wr)
    case atStart => exact ⟨0, by omega, rfl, by simp, Below.refl _ _⟩
    case round =>
      obtain ⟨k, hk, rfl, hok, bel⟩ := hrel
      have BEL := Lib.hid bel
      have hwz := bel.size
      by_cases hlt : k < a.length
      · have hlt2 : k < b.length := by omega
        obtain ⟨b1, off1, rfl, hb1, c0, c1, c2, c3⟩ := H1.out.at_ k hlt
        obtain ⟨b2, off2, rfl, hb2, d0, d1, d2, d3⟩ := H2.out.at_ k hlt2
        have i4 : (k : Int) < (a.length : Int) := by omega
        have i5 : (k : Int) < (b.length : Int) := by omega
        rw [← bel.cell (p := ⟨b1, off1 + k * 4, none⟩) hb1] at c0
        rw [← bel.cell (p := ⟨b1, off1 + k * 4 + 1, none⟩) hb1] at c1
        rw [← bel.cell (p := ⟨b1, off1 + k * 4 + 2, none⟩) hb1] at c2
        rw [← bel.cell (p := ⟨b1, off1 + k * 4 + 3, none⟩) hb1] at c3
        rw [← bel.cell (p := ⟨b2, off2 + k * 4, none⟩) hb2] at d0
        rw [← bel.cell (p := ⟨b2, off2 + k * 4 + 1, none⟩) hb2] at d1
        rw [← bel.cell (p := ⟨b2, off2 + k * 4 + 2, none⟩) hb2] at d2
        rw [← bel.cell (p := ⟨b2, off2 + k * 4 + 3, none⟩) hb2] at d3
        clear bel
        have hn := HNO.out k hlt
        have hy : a[k] = b[k] → ∀ j, j < k + 1 → a[j]? = b[j]? := fun h j hj => by
          rcases (by omega : j < k ∨ j = k) with h1 | rfl
          · exact hok j h1
          · rw [List.getElem?_eq_getElem hlt, List.getElem?_eq_getElem hlt2, h]
        rw [List.getElem?_eq_getElem hlt, List.getElem?_eq_getElem hlt2] at hn
        have hn2 : a[k] ≠ b[k] → ans = false := fun h => hn (fun e => h (Option.some.inj e))
        have hev := fun W : World => eqVal_c W a[k].v b[k].v
        generalize a[k] = x at *
        generalize b[k] = y at *
        obtain ⟨x0, xv⟩ := x
        obtain ⟨y0, yv⟩ := y
        simp only [rawV] at hev
        have HEV := Lib.hid hev
        simp only [PR.mk.injEq, ne_eq] at c0 c1 c2 c3 d0 d1 d2 d3 hy hn2
        have C0 : ∀ x : OkW (Old wr), x.w.cell? ⟨b1, off1 + k * 4, none⟩ = some (.string x0) := Old.cell c0
        have C1 : ∀ x : OkW (Old wr), x.w.cell? ⟨b1, off1 + k * 4 + 1, none⟩ = some (.int .i64 xv.kind) := Old.cell c1
        have C2 : ∀ x : OkW (Old wr), x.w.cell? ⟨b1, off1 + k * 4 + 2, none⟩ = some (.int .i64 xv.n) := Old.cell c2
        have C3 : ∀ x : OkW (Old wr), x.w.cell? ⟨b1, off1 + k * 4 + 3, none⟩ = some (.string xv.s) := Old.cell c3
        have D0 : ∀ x : OkW (Old wr), x.w.cell? ⟨b2, off2 + k * 4, none⟩ = some (.string y0) := Old.cell d0
        have D1 : ∀ x : OkW (Old wr), x.w.cell? ⟨b2, off2 + k * 4 + 1, none⟩ = some (.int .i64 yv.kind) := Old.cell d1
        have D2 : ∀ x : OkW (Old wr), x.w.cell? ⟨b2, off2 + k * 4 + 2, none⟩ = some (.int .i64 yv.n) := Old.cell d2
        have D3 : ∀ x : OkW (Old wr), x.w.cell? ⟨b2, off2 + k * 4 + 3, none⟩ = some (.string yv.s) := Old.cell d3
        clear hn hok hev c0 c1 c2 c3 d0 d1 d2 d3
        have i6 : (k : Int) < (b.length : Int) := i5
        go_upto_region 6 with (fail)
        by_cases e0 : x0 = y0
        · by_cases e1 : xv = yv
          · have HY := Lib.hid (hy ⟨e0, e1⟩)
            have hde : decide (xv = yv) = true := decide_eq_true e1
            rw [hde] at HEV
            clear hy hn2 hde e1
            subst e0
            refine wp_region_ok (Old wr) (by kernel_rfl) (by kernel_rfl) (Old.start wr) ?_
            repeat (go_big_quiet_step ((go_at_call 17; refine (HEV.out _).mono ?_; rintro e w' ⟨rfl, bel⟩; exact ⟨rfl, ⟨_, Old.step _ bel⟩, rfl⟩)))
            refine wpQuiet_nil ?_
            rintro _ ⟨⟨w4, hok4⟩, rfl⟩
            clear C0 C1 C2 C3 D0 D1 D2 D3
            go_wp2_with (fail)
            go_roundg (a.length - (k + 1))
            case measure => omega
            case rel => exact ⟨k + 1, by omega, by go_num, HY.out, BEL.out.trans (hok4.mono hwz)⟩
          · have HA := Lib.hid (hn2 (fun h => e1 h.2))
            have hde : decide (xv = yv) = false := decide_eq_false e1
            rw [hde] at HEV
            clear hy hn2 hde
            subst e0
            refine wp_region_ok (Old wr) (by kernel_rfl) (by kernel_rfl) (Old.start wr) ?_
            repeat (go_big_quiet_step ((go_at_call 17; refine (HEV.out _).mono ?_; rintro e w' ⟨rfl, bel⟩; exact ⟨rfl, ⟨_, Old.step _ bel⟩, rfl⟩)))
            refine wpQuiet_nil ?_
            rintro _ ⟨⟨w4, hok4⟩, rfl⟩
            clear C0 C1 C2 C3 D0 D1 D2 D3
            go_wp2_with (fail)
            go_ret
            exact ⟨by rw [HA.out]; rfl, BEL.out.trans (hok4.mono hwz)⟩
        · have HA := Lib.hid (hn2 (fun h => e0 h.1))
          have f4 := bytes_ne e0
          clear hy hn2
          refine wp_region_ok (Old wr) (by kernel_rfl) (by kernel_rfl) (Old.start wr) ?_
          repeat (go_big_quiet_step (fail))
          refine wpQuiet_nil ?_
          rintro _ ⟨⟨w4, hok4⟩, rfl⟩
          clear C0 C1 C2 C3 D0 D1 D2 D3
          go_wp2_with (fail)
          go_ret
          exact ⟨by rw [HA.out]; rfl, BEL.out.trans (hok4.mono hwz)⟩
      · have HA := Lib.hid (HYES.out fun j hj => hok j (by omega))
        clear bel hok
        go_wp2_with (fail)
        go_ret
        exact ⟨by rw [HA.out]; rfl, BEL.out⟩
  · have hd : decide (a = b) = false := by
      simp
      intro e
      exact hlen (congrArg List.length e)
    have HD := Lib.hid hd
    have hi : ¬ (a.length : Int) = (b.length : Int) := by omega
    clear hd
    go_enter Try.func16, Try.ntmps16
    go_wp2_with (fail)
    go_ret
    exact ⟨by rw [HD.out]; rfl, Below.refl _ _⟩
end Go.Proofs.Ytjokghnlmaaejaa
