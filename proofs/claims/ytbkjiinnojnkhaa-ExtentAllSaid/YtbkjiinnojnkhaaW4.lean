import Derived.Test.YtbkjiinnojnkhaaW3
namespace Go.Proofs.Ytbkjiinnojnkhaa
open Go.RowKit
theorem RoomAt.below_ {B : Nat} {w w' : World} {p b cap : Nat} {ex : List Value} {at_ : Int} {free : List Bool} (h : RoomAt w p b cap ex at_ free) (f : Below B w w') (hp : p < B) (hb : b < B) : RoomAt w' p b cap ex at_ free :=
  ⟨h.head.below f hp, h.row.below f hb, h.lo, h.hi, h.len, h.le, h.cap⟩
set_option maxRecDepth 100000 in
set_option maxHeartbeats 8000000 in
theorem extentAll_walk (w : World) {x y : Int} {v : Value} {ops : List (Int × Int × Int)} (hx : (Lit.int .i64 x).wf = true) (hy : (Lit.int .i64 y).wf = true) (hv : So w w.heap.size v ops) :
    Calls Try.prog 3 #[.int .i64 x, .int .i64 y, v] w fun e w' => e = .returned (.bool true) ∧ Below w.heap.size w w' := by
  have hx' := bounds_i64 hx
  have hy' := bounds_i64 hy
  obtain ⟨oa, ocap, rfl, hol⟩ := hv.1.form
  have HOP := Lib.hid hv
  clear hx hy hv
  go_enter Try.func3, Try.ntmps3
  go_wp2_with (fail)
  refine (begun_c w).mono ?_
  rintro e w1 ⟨rfl, bel⟩
  have B1 := Lib.hid bel
  have z1 := bel.size
  clear bel
  by_cases c1 : x < 0
  · go_wp2_with (fail)
    go_ret
    exact ⟨rfl, B1.out⟩
  by_cases c2 : 50 < x
  · go_wp2_with (fail)
    go_ret
    exact ⟨rfl, B1.out⟩
  by_cases c3 : y < 0
  · go_wp2_with (fail)
    go_ret
    exact ⟨rfl, B1.out⟩
  by_cases c4 : 60 < y
  · go_wp2_with (fail)
    go_ret
    exact ⟨rfl, B1.out⟩
  obtain ⟨a, rfl⟩ := Int.eq_ofNat_of_zero_le (by omega : 0 ≤ x)
  obtain ⟨n, rfl⟩ := Int.eq_ofNat_of_zero_le (by omega : 0 ≤ y)
  have d1 : decide ((a : Int) < 0) = false := by simp
  have d2 : decide (50 < (a : Int)) = false := by simp; omega
  have d3 : decide ((n : Int) < 0) = false := by simp
  have d4 : decide (60 < (n : Int)) = false := by simp; omega
  have ha : a ≤ 50 := by omega
  have hn : n ≤ 60 := by omega
  clear c1 c2 c3 c4 hx' hy'
  go_wp2_with (fail)
  refine (new_c w1 a n (by omega) (by omega) (by omega) (by omega)).mono ?_
  rintro e w2 ⟨⟨p, q, rfl, hp, hq, hr⟩, bel⟩
  rw [Int.toNat_natCast, rg_true] at hr
  have R2 := Lib.hid hr
  have B2 := Lib.hid (B1.out.trans (bel.mono z1))
  have z2 := bel.size
  have hq2 : q < w2.heap.size := hr.row.lt
  have hp2 : p < w2.heap.size := hr.head.lt
  obtain ⟨cs0, hcs0⟩ : ∃ cs : Array Value, cs = (tv (List.replicate 130 false)).toArray := ⟨_, rfl⟩
  have hmk : ∀ W : World, (Instr.makeSlice 26 (.int .i64 130) (.int .i64 130)).run Try.prog W = .ok (.slice (some ⟨W.heap.size, 0, none⟩) 130 130) (W.alloc (.cells cs0 4)) := by
    rw [hcs0]; exact run_make_bools 130 (by omega)
  have HC0 := Lib.hid hcs0
  clear hcs0
  clear hr bel d1 d2 d3 d4
  go_wp2_with (fail)
  go_loopg [10] n (fun qq i wr => ∃ k : Nat, k + qq = n ∧ i = .int .i64 ((a : Int) + (k : Int)) ∧ Bl wr w2.heap.size 4 (tv (rg 130 fun t => decide (a ≤ t ∧ t < a + k))) ∧ Below w2.heap.size w2 wr)
  case atStart =>
    refine ⟨0, by omega, by simp, ?_, (Below.refl _ _).alloc (Nat.le_refl _) _⟩
    have e : List.replicate 130 false = rg 130 fun t => decide (a ≤ t ∧ t < a + 0) := by
      rw [show List.replicate 130 false = rg 130 fun _ => false by rfl]
      exact rg_ext fun t _ => (decide_eq_false (by omega)).symm
    rw [← e, HC0.out]
    exact Bl.new _ _ _
  case round =>
    obtain ⟨k, hk, rfl, hb, bel⟩ := hrel
    by_cases hlt : k < n
    · have i4 : (a : Int) + (k : Int) < (a : Int) + (n : Int) := by omega
      have c5 : ∃ y, wr.cell? ⟨w2.heap.size, a + k, none⟩ = some y := ⟨_, by rw [hb.cell, List.getElem?_eq_getElem (by rw [tv_len, rg_len]; omega)]⟩
      obtain ⟨y5, c5⟩ := c5
      have f5 := hb.free (a + k)
      have hset := bl_put hb (a + k) (by omega) true
      have e5 : (rg 130 (put (fun t => decide (a ≤ t ∧ t < a + k)) (a + k) 1 true)) = rg 130 fun t => decide (a ≤ t ∧ t < a + (k + 1)) := rg_ext fun t _ => by
        unfold put
        by_cases h1 : a + k ≤ t ∧ t < a + k + 1
        · rw [if_pos h1]; exact (decide_eq_true (by omega)).symm
        · rw [if_neg h1]; exact decide_eq_decide.2 (by omega)
      rw [e5] at hset
      have HS := Lib.hid hset
      have BE := Lib.hid (bel.setCell (p := ⟨w2.heap.size, a + k, none⟩) (Nat.le_refl _) (.bool true))
      clear hset hb bel e5
      go_wp2_with (fail)
      go_roundg (n - (k + 1))
      case measure => omega
      case rel => exact ⟨k + 1, by omega, by go_num, HS.out, BE.out⟩
    · have e : k = n := by omega
      subst e
      have hsit : Sit w wr p q w2.heap.size a k fun t => decide (a ≤ t ∧ t < a + k) := by
        refine ⟨?_, hb, B2.out.trans (bel.mono B2.out.size), ⟨fun t ht => decide_eq_false (by omega), fun t ht => decide_eq_false (by omega)⟩, by omega, by omega⟩
        have h1 := R2.out.below_ bel hp2 hq2
        rwa [show (rg k fun _ => true) = own_ a k fun t => decide (a ≤ t ∧ t < a + k) from rg_ext fun t _ => (decide_eq_true (by omega)).symm] at h1
      have HSIT := Lib.hid hsit
      have hfb : q < w2.heap.size ∧ p < w2.heap.size ∧ w.heap.size ≤ q ∧ w.heap.size ≤ p ∧ w.heap.size ≤ w2.heap.size := by omega
      clear hsit hb bel
      generalize w2.heap.size = fb at *
      clear hmk HC0 R2 B2
      obtain ⟨wo, rfl⟩ : ∃ wo : World, wo = wr := ⟨_, rfl⟩
      go_wp2_with (fail)
      go_loopg [11] ops.length (fun qq i wr => ∃ (j : Nat) (g : Nat → Bool), j + qq = ops.length ∧ j ≤ 60 ∧ i = .int .i64 (j : Int) ∧ Sit w wr p q fb a k g)
      case atStart => exact ⟨0, _, by omega, by omega, rfl, HSIT.out⟩
      case round =>
        obtain ⟨j, g, hj, hj60, rfl, hs⟩ := hrel
        by_cases hlt2 : j < ops.length ∧ j < 60
        · obtain ⟨hj1, hj2⟩ := hlt2
          obtain ⟨ob, oo, rfl, hob, o0, o1, o2⟩ := HOP.out.at_ j hj1
          rw [← hs.bel.cell (p := ⟨ob, oo + j * 3, none⟩) hob] at o0
          rw [← hs.bel.cell (p := ⟨ob, oo + j * 3 + 1, none⟩) hob] at o1
          rw [← hs.bel.cell (p := ⟨ob, oo + j * 3 + 2, none⟩) hob] at o2
          obtain ⟨b0, b1, b2⟩ := HOP.out.2 _ (List.getElem_mem hj1)
          generalize ops[j].1 = K at *
          generalize ops[j].2.1 = A at *
          generalize ops[j].2.2 = M at *
          have i4 : (j : Int) < (ops.length : Int) := by omega
          have i5 : (j : Int) < 60 := by omega
          have HS := Lib.hid hs
          have HB1 : Hid (I64' A) := b1
          have HB2 : Hid (I64' M) := b2
          have HC := Lib.hid (And.intro o0 (And.intro o1 o2))
          clear hs b0 b1 b2 o0 o1 o2
          go_upto_block 3 with (fail)
          apply part3 w wr p q fb a k g K A M HB1.out HB2.out ha hn ob oo ops.length ocap j hj1 HC.out.1 HC.out.2.1 HC.out.2.2 HS.out
          intro g' w'
          intros
          rename_i hs7
          have HS7 := Lib.hid hs7
          clear hs7
          go_wp2_with (fail)
          go_roundg (ops.length - (j + 1))
          case measure => omega
          case rel => exact ⟨j + 1, g', by omega, by omega, by go_num, HS7.out⟩
        · have HS := Lib.hid hs
          have h1 : j < ops.length ∨ ops.length ≤ j := by omega
          clear hs
          rcases h1 with h1 | h1
          · go_wp2_with (fail)
            go_ret
            exact ⟨rfl, HS.out.bel⟩
          · go_wp2_with (fail)
            go_ret
            exact ⟨rfl, HS.out.bel⟩
end Go.Proofs.Ytbkjiinnojnkhaa
