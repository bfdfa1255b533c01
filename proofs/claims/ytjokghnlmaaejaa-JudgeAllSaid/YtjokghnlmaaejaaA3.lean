import Derived.Test.YtjokghnlmaaejaaA1
import Derived.Test.YtjokghnlmaaejaaA2
namespace Go.Proofs.Ytjokghnlmaaejaa
open Go.RowKit
/-! ### JudgeAll: the walk -/
theorem mul_refl (a b : Prop) (h : a ↔ b) : a = b := propext h
set_option maxHeartbeats 8000000 in
set_option maxRecDepth 100000 in
theorem judgeAll_walk (w : World) {va vb : Value} {la lb : List PR} (ha : Sp w w.heap.size va la) (hb : Sp w w.heap.size vb lb) (r : RR) (ask : ByteArray) :
    Calls Try.prog 3 #[va, vb, rrV r, .string ask] w fun e w' => e = .returned (.bool true) ∧ Below w.heap.size w w' := by
  have hcr := fun W : World => cutR_c W r
  have hca : ∀ W : World, Calls Try.prog 10 #[.string ask, .int .i64 20] W fun e w' => e = .returned (.string (cutS ask 20)) ∧ W = w' := fun W => cutS_c W ask 20
  have hA : ((la.take 20).map cutP).length ≤ 20 := by rw [List.length_map, List.length_take]; omega
  have hB : ((lb.take 20).map cutP).length ≤ 20 := by rw [List.length_map, List.length_take]; omega
  have hcA : ∀ W : World, Sp W W.heap.size va la → _ := fun W h => cuts_c W va la h
  have hcB : ∀ W : World, Sp W W.heap.size vb lb → _ := fun W h => cuts_c W vb lb h
  generalize (la.take 20).map cutP = A at *
  generalize (lb.take 20).map cutP = Bq at *
  generalize cutS ask 20 = K at *
  generalize cutR r = R at *
  obtain ⟨k, gone, ⟨kind, n, s⟩⟩ := r
  obtain ⟨rk, rgone, ⟨rkind, rn, rs⟩⟩ := R
  simp only [rrV] at *
  have hr : Bl (w.alloc (.cells #[.string k, .bool gone, .int .i64 kind, .int .i64 n, .string s] 26)) w.heap.size 26 [.string k, .bool gone, .int .i64 kind, .int .i64 n, .string s] := Bl.new w 26 _
  have hb0 : Below w.heap.size w (w.alloc (.cells #[.string k, .bool gone, .int .i64 kind, .int .i64 n, .string s] 26)) := (Below.refl _ _).alloc (Nat.le_refl _) _
  have HA := Lib.hid ha
  have HB := Lib.hid hb
  have HCR := Lib.hid hcr
  have HCA := Lib.hid hca
  have HcA := Lib.hid hcA
  have HcB := Lib.hid hcB
  obtain ⟨a1, a2, rfl, _⟩ := Sv.form ha
  obtain ⟨b1, b2, rfl, _⟩ := Sv.form hb
  clear ha hb hcr hca hcA hcB
  go_enter Try.func3, Try.ntmps3
  go_upto_region 1 with (fail)
  generalize w.alloc (.cells #[.string k, .bool gone, .int .i64 kind, .int .i64 n, .string s] 26) = w1 at *
  have hz1 := hb0.size
  have hlt1 := hr.lt
  have HR := Lib.hid hr
  have HW := Lib.hid hb0
  clear hr hb0
  go_wp2_with (fail)
  refine (begun_c w1).mono ?_
  rintro e w2 ⟨rfl, bel⟩
  have B2 := Lib.hid (HW.out.trans (bel.mono hz1))
  have R2 := Lib.hid (HR.out.below bel hlt1)
  have hz2 := B2.out.size
  have hlt2 := R2.out.lt
  have SA2 : RowKit.Hid (Sp w2 w2.heap.size (.slice a1 la.length a2) la) := Sv.below HA.out hz2 B2.out (Nat.le_refl _)
  have SB2 : RowKit.Hid (Sp w2 w2.heap.size (.slice b1 lb.length b2) lb) := Sv.below HB.out hz2 B2.out (Nat.le_refl _)
  clear bel HA HB
  have c02 : w2.cell? ⟨w.heap.size, 0, none⟩ = some (.string k) := R2.out.cell 0
  have c12 : w2.cell? ⟨w.heap.size, 1, none⟩ = some (.bool gone) := R2.out.cell 1
  have c22 : w2.cell? ⟨w.heap.size, 2, none⟩ = some (.int .i64 kind) := R2.out.cell 2
  have c32 : w2.cell? ⟨w.heap.size, 3, none⟩ = some (.int .i64 n) := R2.out.cell 3
  have c42 : w2.cell? ⟨w.heap.size, 4, none⟩ = some (.string s) := R2.out.cell 4
  go_upto_region 4 with (fail)
  go_region_with (first
    | (go_at_call_of 8 (Value.slice a1 la.length a2); refine (HcA.out _ (Sv.drew SA2.out)).mono ?_; rintro e w3 ⟨⟨ua, rfl, owa⟩, bel⟩; have OWA := Lib.hid owa; have hO3 : Old w2 w3 := Old.step ⟨_, Old.start _⟩ bel; have hp := R2.out.below hO3 hlt2; have c03 : w3.cell? ⟨w.heap.size, 0, none⟩ = some (.string k) := hp.cell 0; have c13 : w3.cell? ⟨w.heap.size, 1, none⟩ = some (.bool gone) := hp.cell 1; have c23 : w3.cell? ⟨w.heap.size, 2, none⟩ = some (.int .i64 kind) := hp.cell 2; have c33 : w3.cell? ⟨w.heap.size, 3, none⟩ = some (.int .i64 n) := hp.cell 3; have c43 : w3.cell? ⟨w.heap.size, 4, none⟩ = some (.string s) := hp.cell 4; clear bel hp owa)
    | (go_at_call_of 8 (Value.slice b1 lb.length b2); refine (HcB.out _ (Sv.below SB2.out hO3.size hO3 (Nat.le_refl _))).mono ?_; rintro e w4 ⟨⟨ub, rfl, owb⟩, bel⟩; have OWB := Lib.hid owb; have OWA4 := Lib.hid (ownsRow_fr OWA.out (Fr.of_below bel) (by simp)); have hO4 : Old w2 w4 := Old.step ⟨_, hO3⟩ bel; have hp := R2.out.below hO4 hlt2; have c04 : w4.cell? ⟨w.heap.size, 0, none⟩ = some (.string k) := hp.cell 0; have c14 : w4.cell? ⟨w.heap.size, 1, none⟩ = some (.bool gone) := hp.cell 1; have c24 : w4.cell? ⟨w.heap.size, 2, none⟩ = some (.int .i64 kind) := hp.cell 2; have c34 : w4.cell? ⟨w.heap.size, 3, none⟩ = some (.int .i64 n) := hp.cell 3; have c44 : w4.cell? ⟨w.heap.size, 4, none⟩ = some (.string s) := hp.cell 4; clear bel hp owb)
    | (go_at_call 9; refine (HCR.out _).mono ?_; rintro e w5 ⟨rfl, bel⟩; have OWB5 := Lib.hid (ownsRow_fr OWB.out (Fr.of_below bel) (by simp)); have OWA5 := Lib.hid (ownsRow_fr OWA4.out (Fr.of_below bel) (by simp)); have hO5 : Old w2 w5 := Old.step ⟨_, hO4⟩ bel; have hp := R2.out.below hO5 hlt2; have c05 : w5.cell? ⟨w.heap.size, 0, none⟩ = some (.string k) := hp.cell 0; have q0 := hp.free 0; have c15 : w5.cell? ⟨w.heap.size, 1, none⟩ = some (.bool gone) := hp.cell 1; have q1 := hp.free 1; have c25 : w5.cell? ⟨w.heap.size, 2, none⟩ = some (.int .i64 kind) := hp.cell 2; have q2 := hp.free 2; have c35 : w5.cell? ⟨w.heap.size, 3, none⟩ = some (.int .i64 n) := hp.cell 3; have q3 := hp.free 3; have c45 : w5.cell? ⟨w.heap.size, 4, none⟩ = some (.string s) := hp.cell 4; have q4 := hp.free 4; have BX5 := Lib.hid hp; clear bel hp)
    | (go_at_call 10; refine (HCA.out _).mono ?_; rintro e w6 ⟨rfl, rfl⟩))
  all_goals
    have hw6 : Bl (((((w5.setCell ⟨w.heap.size, 0, none⟩ (.string rk)).setCell ⟨w.heap.size, 1, none⟩ (.bool rgone)).setCell ⟨w.heap.size, 2, none⟩ (.int .i64 rkind)).setCell ⟨w.heap.size, 3, none⟩ (.int .i64 rn)).setCell ⟨w.heap.size, 4, none⟩ (.string rs)) w.heap.size 26 [.string rk, .bool rgone, .int .i64 rkind, .int .i64 rn, .string rs] := (((((BX5.out.set 0 (.string rk)).set 1 (.bool rgone)).set 2 (.int .i64 rkind)).set 3 (.int .i64 rn)).set 4 (.string rs))
    have f6 : Fr [w.heap.size] w5 (((((w5.setCell ⟨w.heap.size, 0, none⟩ (.string rk)).setCell ⟨w.heap.size, 1, none⟩ (.bool rgone)).setCell ⟨w.heap.size, 2, none⟩ (.int .i64 rkind)).setCell ⟨w.heap.size, 3, none⟩ (.int .i64 rn)).setCell ⟨w.heap.size, 4, none⟩ (.string rs)) := ((((((Fr.refl _ _).setCell (by simp) _).setCell (by simp) _).setCell (by simp) _).setCell (by simp) _).setCell (by simp) _)
    have hs3 := hO3.size
    have owa6 := ownsRow_fr OWA5.out f6 (fun j hj => by have h1 : w2.heap.size ≤ j := own_ge OWA5.out hj (Nat.le_refl _); simp; omega)
    have owb6 := ownsRow_fr OWB5.out f6 (fun j hj => by have h1 : w3.heap.size ≤ j := own_ge OWB5.out hj (Nat.le_refl _); simp; omega)
    have b6 := (B2.out.trans (Below.mono hO5 hz2)).trans (f6.below (B := w.heap.size) (Nat.le_trans hz2 hO5.size) (by simp))
    have BX6 := Lib.hid hw6
    have B6 := Lib.hid b6
    clear hw6 f6 b6
    generalize (((((w5.setCell ⟨w.heap.size, 0, none⟩ (.string rk)).setCell ⟨w.heap.size, 1, none⟩ (.bool rgone)).setCell ⟨w.heap.size, 2, none⟩ (.int .i64 rkind)).setCell ⟨w.heap.size, 3, none⟩ (.int .i64 rn)).setCell ⟨w.heap.size, 4, none⟩ (.string rs)) = w6 at *
    obtain ⟨a3, a4, rfl⟩ := own_form owa6
    obtain ⟨b3, b4, rfl⟩ := own_form owb6
    have spa6 : Sp w6 w6.heap.size (.slice a3 A.length a4) A := Sv.own owa6
    have spb6 : Sp w6 w6.heap.size (.slice b3 Bq.length b4) Bq := Sv.own owb6
    have SA6 := Lib.hid spa6
    have SB6 := Lib.hid spb6
    have hz6 := B6.out.size
    have hlt6 := BX6.out.lt
    clear owa6 owb6 spa6 spb6 OWA OWB OWA4 OWA5 OWB5 BX5 hO3 hO4 hO5 hs3 SA2 SB2 HcA HcB HCR HCA R2 HR HW B2
    go_wp2_with (fail)
    have hg := get_c w6 _ A K SA6.out
    have hg2 := fun (W : World) (h : Sp W W.heap.size (.slice a3 A.length a4) A) => refGet_c W _ A K h
    generalize getF A K = gv at *
    obtain ⟨⟨v0, v1, v2⟩, gok⟩ := gv
    simp only [rawV] at hg hg2
    have HG2 := Lib.hid hg2
    clear hg2
    refine hg.mono ?_
    rintro e w7 ⟨rfl, bel⟩
    have SA7 := Lib.hid (SA6.out.below bel.size bel (Nat.le_refl _))
    have SB7 := Lib.hid (SB6.out.below bel.size bel (Nat.le_refl _))
    have BX7 := Lib.hid (BX6.out.below bel hlt6)
    have B7 := Lib.hid (B6.out.trans (bel.mono hz6))
    clear bel hg SA6 SB6 BX6
    go_upto_region 6 with (fail)
    have hal : Below w7.heap.size w7 (w7.alloc (.cells #[.int .i64 v0, .int .i64 v1, .string v2] 24)) := (Below.refl _ _).alloc (Nat.le_refl _) _
    have hp : Bl (w7.alloc (.cells #[.int .i64 v0, .int .i64 v1, .string v2] 24)) w7.heap.size 24 [.int .i64 v0, .int .i64 v1, .string v2] := Bl.new w7 24 _
    generalize w7.alloc (.cells #[.int .i64 v0, .int .i64 v1, .string v2] 24) = w8 at *
    have SA8 := Lib.hid (SA7.out.below hal.size hal (Nat.le_refl _))
    have SB8 := Lib.hid (SB7.out.below hal.size hal (Nat.le_refl _))
    have BX8 := Lib.hid (BX7.out.below hal BX7.out.lt)
    have B8 := Lib.hid (B7.out.trans (hal.mono B7.out.size))
    have P8 := Lib.hid hp
    clear hal hp SA7 SB7 BX7
    go_wp2_with (fail)
    refine (HG2.out w8 SA8.out).mono ?_
    rintro e w9 ⟨rfl, bel⟩
    have SA9 := Lib.hid (SA8.out.below bel.size bel (Nat.le_refl _))
    have SB9 := Lib.hid (SB8.out.below bel.size bel (Nat.le_refl _))
    have BX9 := Lib.hid (BX8.out.below bel BX8.out.lt)
    have P9 := Lib.hid (P8.out.below bel P8.out.lt)
    have B9 := Lib.hid (B8.out.trans (bel.mono B8.out.size))
    clear bel SA8 SB8 BX8 P8 HG2
    go_upto_region 7 with (fail)
    have hal : Below w9.heap.size w9 (w9.alloc (.cells #[.int .i64 v0, .int .i64 v1, .string v2] 24)) := (Below.refl _ _).alloc (Nat.le_refl _) _
    have hp : Bl (w9.alloc (.cells #[.int .i64 v0, .int .i64 v1, .string v2] 24)) w9.heap.size 24 [.int .i64 v0, .int .i64 v1, .string v2] := Bl.new w9 24 _
    generalize w9.alloc (.cells #[.int .i64 v0, .int .i64 v1, .string v2] 24) = w10 at *
    have SA := Lib.hid (SA9.out.below hal.size hal (Nat.le_refl _))
    have SB := Lib.hid (SB9.out.below hal.size hal (Nat.le_refl _))
    have BX := Lib.hid (BX9.out.below hal BX9.out.lt)
    have P1 := Lib.hid (P9.out.below hal P9.out.lt)
    have P2 := Lib.hid hp
    have B10 := Lib.hid (B9.out.trans (hal.mono B9.out.size))
    clear hal hp SA9 SB9 BX9 P9
    have hz10 := B10.out.size
    have spA : ∀ W : World, Below w10.heap.size w10 W → Sp W W.heap.size (.slice a3 A.length a4) A := fun W h => SA.out.below h.size h (Nat.le_refl _)
    have spB : ∀ W : World, Below w10.heap.size w10 W → Sp W W.heap.size (.slice b3 Bq.length b4) Bq := fun W h => SB.out.below h.size h (Nat.le_refl _)
    have SPA := Lib.hid spA
    have SPB := Lib.hid spB
    clear spA spB
    -- Sorted, sorted, Same, EqPairs, EqVal
    have h13 := sorted_c w10 _ A SA.out
    have hsetn : sortedL A = false → setF A ⟨rk, rgone, ⟨rkind, rn, rs⟩⟩ = [] := fun h => by unfold setF; rw [h]; rfl
    have h14 : ∀ W : World, Below w10.heap.size w10 W → Calls Try.prog 14 #[.slice a3 A.length a4] W fun e w' => e = .returned (.bool (sortedL A)) ∧ Below W.heap.size W w' := fun W h => lawSorted_c W _ A (SPA.out W h)
    have h15 : ∀ W : World, Below w10.heap.size w10 W → Calls Try.prog 15 #[.slice a3 A.length a4, .slice b3 Bq.length b4] W fun e w' => e = .returned (.bool (decide (A = Bq))) ∧ Below W.heap.size W w' := fun W h => same_c W _ _ A Bq (SPA.out W h) (SPB.out W h)
    have h16 : ∀ W : World, Below w10.heap.size w10 W → Calls Try.prog 16 #[.slice a3 A.length a4, .slice b3 Bq.length b4] W fun e w' => e = .returned (.bool (decide (A = Bq))) ∧ Below W.heap.size W w' := fun W h => eqPairs_c W _ _ A Bq (SPA.out W h) (SPB.out W h)
    have h17 : ∀ W : World, Calls Try.prog 17 #[.agg #[.int .i64 v0, .int .i64 v1, .string v2], .agg #[.int .i64 v0, .int .i64 v1, .string v2]] W fun e w' => e = .returned (.bool true) ∧ Below W.heap.size W w' := fun W => (eqVal_c W ⟨v0, v1, v2⟩ ⟨v0, v1, v2⟩).mono fun e w' hh => ⟨by rw [hh.1, decide_eq_true rfl], hh.2⟩
    have h18 : ∀ W : World, Below w10.heap.size w10 W → Calls Try.prog 18 #[.slice a3 A.length a4, .agg #[.string rk, .bool rgone, .int .i64 rkind, .int .i64 rn, .string rs]] W fun e w' => Gives W (setF A ⟨rk, rgone, ⟨rkind, rn, rs⟩⟩) e w' := fun W h => set_c W _ A ⟨rk, rgone, ⟨rkind, rn, rs⟩⟩ (SPA.out W h) (by omega)
    have h19 : ∀ W : World, Calls Try.prog 19 #[.agg #[.string rk, .bool rgone, .int .i64 rkind, .int .i64 rn, .string rs]] W fun e w' => e = .returned (.bool (mayR ⟨rk, rgone, ⟨rkind, rn, rs⟩⟩)) ∧ Below W.heap.size W w' := fun W => refMay_c W ⟨rk, rgone, ⟨rkind, rn, rs⟩⟩
    have h20 : ∀ W : World, Below w10.heap.size w10 W → Calls Try.prog 20 #[.slice a3 A.length a4, .agg #[.string rk, .bool rgone, .int .i64 rkind, .int .i64 rn, .string rs]] W fun e w' => (∃ u, e = .returned u ∧ Sp w' w'.heap.size u (lawSetF A ⟨rk, rgone, ⟨rkind, rn, rs⟩⟩)) ∧ Below W.heap.size W w' := fun W h => lawSet_c W _ A ⟨rk, rgone, ⟨rkind, rn, rs⟩⟩ (SPA.out W h) (by omega)
    have hyes : sortedL A = true → mayR ⟨rk, rgone, ⟨rkind, rn, rs⟩⟩ = true → lawSetF A ⟨rk, rgone, ⟨rkind, rn, rs⟩⟩ = setF A ⟨rk, rgone, ⟨rkind, rn, rs⟩⟩ ∧ sortedL (setF A ⟨rk, rgone, ⟨rkind, rn, rs⟩⟩) = true := fun h1 h2 => by
      rw [setF_eq h1 h2, lawSet_eq ((sorted_iff A).1 h1).2]
      exact ⟨rfl, sorted_setS h1 h2⟩
    have hnot : sortedL A = true → mayR ⟨rk, rgone, ⟨rkind, rn, rs⟩⟩ = false → setF A ⟨rk, rgone, ⟨rkind, rn, rs⟩⟩ = A := fun h1 h2 => by unfold setF; rw [h1, h2]; rfl
    generalize lawSetF A ⟨rk, rgone, ⟨rkind, rn, rs⟩⟩ = LS at *
    generalize setF A ⟨rk, rgone, ⟨rkind, rn, rs⟩⟩ = M at *
    generalize mayR ⟨rk, rgone, ⟨rkind, rn, rs⟩⟩ = may at *
    generalize hsa : sortedL A = sa at *
    have HSA := Lib.hid hsa
    clear hsa
    generalize decide (A = Bq) = eqq at *
    have H14 := Lib.hid h14
    have H15 := Lib.hid h15
    have H16 := Lib.hid h16
    have H17 := Lib.hid h17
    have H18 := Lib.hid h18
    have H19 := Lib.hid h19
    have H20 := Lib.hid h20
    have HYES := Lib.hid hyes
    have HNOT := Lib.hid hnot
    have HSN := Lib.hid hsetn
    clear h14 h15 h16 h17 h18 h19 h20 hyes hnot hsetn
    go_wp2_with (fail)
    refine h13.mono ?_
    rintro e w11 ⟨rfl, bel⟩
    have C1 := Lib.hid bel
    clear bel h13
    go_wp2_with (fail)
    refine (H14.out w11 C1.out).mono ?_
    rintro e w12 ⟨rfl, bel⟩
    have C2 := Lib.hid (C1.out.trans (bel.mono C1.out.size))
    clear bel C1
    go_wp2_with (fail)
    refine (H15.out w12 C2.out).mono ?_
    rintro e w13 ⟨rfl, bel⟩
    have C3 := Lib.hid (C2.out.trans (bel.mono C2.out.size))
    clear bel C2
    go_wp2_with (fail)
    refine (H16.out w13 C3.out).mono ?_
    rintro e w14 ⟨rfl, bel⟩
    have C4 := Lib.hid (C3.out.trans (bel.mono C3.out.size))
    have p1 := P1.out.below C4.out P1.out.lt
    have p2 := P2.out.below C4.out P2.out.lt
    have x0 : w14.cell? ⟨w7.heap.size, 0, none⟩ = some (.int .i64 v0) := p1.cell 0
    have x1 : w14.cell? ⟨w7.heap.size, 1, none⟩ = some (.int .i64 v1) := p1.cell 1
    have x2 : w14.cell? ⟨w7.heap.size, 2, none⟩ = some (.string v2) := p1.cell 2
    have y0 : w14.cell? ⟨w9.heap.size, 0, none⟩ = some (.int .i64 v0) := p2.cell 0
    have y1 : w14.cell? ⟨w9.heap.size, 1, none⟩ = some (.int .i64 v1) := p2.cell 1
    have y2 : w14.cell? ⟨w9.heap.size, 2, none⟩ = some (.string v2) := p2.cell 2
    clear bel C3 p1 p2
    go_wp2_with (fail)
    refine (H17.out w14).mono ?_
    rintro e w15 ⟨rfl, bel⟩
    have C5 := Lib.hid (C4.out.trans (bel.mono C4.out.size))
    have bx := BX.out.below C5.out BX.out.lt
    have c0 : w15.cell? ⟨w.heap.size, 0, none⟩ = some (.string rk) := bx.cell 0
    have c1 : w15.cell? ⟨w.heap.size, 1, none⟩ = some (.bool rgone) := bx.cell 1
    have c2 : w15.cell? ⟨w.heap.size, 2, none⟩ = some (.int .i64 rkind) := bx.cell 2
    have c3 : w15.cell? ⟨w.heap.size, 3, none⟩ = some (.int .i64 rn) := bx.cell 3
    have c4 : w15.cell? ⟨w.heap.size, 4, none⟩ = some (.string rs) := bx.cell 4
    clear bel bx C4 x0 x1 x2 y0 y1 y2
    go_wp2_with (fail)
    refine (H18.out w15 C5.out).mono ?_
    rintro e w16 ⟨⟨mv, rfl, spm⟩, bel⟩
    have C6 := Lib.hid (C5.out.trans (bel.mono C5.out.size))
    obtain ⟨m1, m2, rfl, _⟩ := Sv.form spm
    have spm6 : Sp w16 w16.heap.size (.slice m1 M.length m2) M := spm
    have SM6 := Lib.hid spm6
    clear bel C5 spm spm6 c0 c1 c2 c3 c4
    go_wp2_with (fail)
    refine (H14.out w16 C6.out).mono ?_
    rintro e w17 ⟨rfl, bel⟩
    have C7 := Lib.hid (C6.out.trans (bel.mono C6.out.size))
    have SM7 := Lib.hid (SM6.out.below bel.size bel (Nat.le_refl _))
    clear bel C6 SM6
    cases sa
    · have hm := HSN.out rfl
      have hml : M.length = 0 := by rw [hm]; rfl
      clear hm
      go_wp2_with (fail)
      go_ret
      exact ⟨rfl, B10.out.trans (C7.out.mono hz10)⟩
    · have bx := BX.out.below C7.out BX.out.lt
      have c0 : w17.cell? ⟨w.heap.size, 0, none⟩ = some (.string rk) := bx.cell 0
      have c1 : w17.cell? ⟨w.heap.size, 1, none⟩ = some (.bool rgone) := bx.cell 1
      have c2 : w17.cell? ⟨w.heap.size, 2, none⟩ = some (.int .i64 rkind) := bx.cell 2
      have c3 : w17.cell? ⟨w.heap.size, 3, none⟩ = some (.int .i64 rn) := bx.cell 3
      have c4 : w17.cell? ⟨w.heap.size, 4, none⟩ = some (.string rs) := bx.cell 4
      clear bx
      go_wp2_with (fail)
      refine (H19.out w17).mono ?_
      rintro e w18 ⟨rfl, bel⟩
      have C8 := Lib.hid (C7.out.trans (bel.mono C7.out.size))
      have SM8 := Lib.hid (SM7.out.below bel.size bel (Nat.le_refl _))
      clear bel C7 SM7 c0 c1 c2 c3 c4
      cases may
      · have hm := HNOT.out (by simp) (by simp)
        have hq := eqPairs_c w18 _ _ M A SM8.out (SPA.out w18 C8.out)
        rw [decide_eq_true hm] at hq
        have hso : ∀ W : World, Sp W W.heap.size (.slice m1 M.length m2) M → Calls Try.prog 13 #[.slice m1 M.length m2] W fun e w' => e = .returned (.bool true) ∧ Below W.heap.size W w' := fun W h => (sorted_c W _ M h).mono fun e w' hh => ⟨by rw [hh.1, hm, HSA.out], hh.2⟩
        have HSO := Lib.hid hso
        have HQ := Lib.hid hq
        clear hm hso hq
        go_wp2_with (fail)
        refine HQ.out.mono ?_
        rintro e w19 ⟨rfl, bel⟩
        have C9 := Lib.hid (C8.out.trans (bel.mono C8.out.size))
        have SM9 := Lib.hid (SM8.out.below bel.size bel (Nat.le_refl _))
        clear bel
        go_wp2_with (fail)
        refine (HSO.out w19 SM9.out).mono ?_
        rintro e w20 ⟨rfl, bel⟩
        have C10 := Lib.hid (C9.out.trans (bel.mono C9.out.size))
        clear bel
        go_wp2_with (fail)
        go_ret
        exact ⟨rfl, B10.out.trans (C10.out.mono hz10)⟩
      · have bx := BX.out.below C8.out BX.out.lt
        have c0 : w18.cell? ⟨w.heap.size, 0, none⟩ = some (.string rk) := bx.cell 0
        have c1 : w18.cell? ⟨w.heap.size, 1, none⟩ = some (.bool rgone) := bx.cell 1
        have c2 : w18.cell? ⟨w.heap.size, 2, none⟩ = some (.int .i64 rkind) := bx.cell 2
        have c3 : w18.cell? ⟨w.heap.size, 3, none⟩ = some (.int .i64 rn) := bx.cell 3
        have c4 : w18.cell? ⟨w.heap.size, 4, none⟩ = some (.string rs) := bx.cell 4
        clear bx
        obtain ⟨hy1, hy2⟩ := HYES.out (by simp) (by simp)
        have HY1 := Lib.hid hy1
        have HY2 := Lib.hid hy2
        clear hy1 hy2
        go_wp2_with (fail)
        refine (H20.out w18 C8.out).mono ?_
        rintro e w19 ⟨⟨lv, rfl, spl⟩, bel⟩
        have C9 := Lib.hid (C8.out.trans (bel.mono C8.out.size))
        have sm9 : Sp w19 w19.heap.size (.slice m1 M.length m2) M := SM8.out.below bel.size bel (Nat.le_refl _)
        have hq := eqPairs_c w19 _ _ M LS sm9 spl
        rw [decide_eq_true HY1.out.symm] at hq
        have SM9 := Lib.hid sm9
        have HQ := Lib.hid hq
        clear bel c0 c1 c2 c3 c4 sm9 hq spl
        go_wp2_with (fail)
        refine HQ.out.mono ?_
        rintro e w20 ⟨rfl, bel⟩
        have C10 := Lib.hid (C9.out.trans (bel.mono C9.out.size))
        have hso := sorted_c w20 _ M (SM9.out.below bel.size bel (Nat.le_refl _))
        rw [HY2.out] at hso
        have HSO := Lib.hid hso
        clear bel hso
        go_wp2_with (fail)
        refine HSO.out.mono ?_
        rintro e w21 ⟨rfl, bel⟩
        have C11 := Lib.hid (C10.out.trans (bel.mono C10.out.size))
        clear bel
        go_wp2_with (fail)
        go_ret
        exact ⟨rfl, B10.out.trans (C11.out.mono hz10)⟩
end Go.Proofs.Ytjokghnlmaaejaa
