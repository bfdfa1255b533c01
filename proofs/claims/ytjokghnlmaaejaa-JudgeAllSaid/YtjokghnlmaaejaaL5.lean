import Derived.Test.YtjokghnlmaaejaaL4
import Derived.Test.YtjokghnlmaaejaaL2
import Derived.Test.YtjokghnlmaaejaaL6
namespace Go.Proofs.Ytjokghnlmaaejaa
open Go.RowKit
/-! ### JudgeParts -/
theorem und39e : Try.prog.underlying 39 = some (.slice (Try.prog.elem 39)) := by kernel_rfl
theorem elem39 : Try.prog.elem 39 = 26 := by kernel_rfl
theorem run_till39 (a : Option Addr) (k n cap : Nat) (hk : k ≤ cap) (W : World) : (Instr.slice 39 (.slice a n cap) none (some (.int .i64 (k : Int))) none).run Try.prog W = .ok (.slice a k cap) W := by
  obtain ⟨i0, hi, hz0, hz1, hz2⟩ := info_parts info26
  rw [run_slice_h W 39 a n cap und39e .i64 k (by omega) (by omega), elem39]
  cases a <;> simp [sizeOf, typeInfo, hi, hz1, sliced, Result.andThen, Addr.add]
theorem Sr.take {w : World} {B cap : Nat} {a : Option Addr} {l : List RR} (h : Sr w B (.slice a l.length cap) l) (k : Nat) (hk : k ≤ l.length) : k ≤ cap ∧ Sr w B (.slice a k cap) (l.take k) := by
  obtain ⟨h1, h2, a', cap', e, h3, h4, h5, h6⟩ := h
  injection e with e1 e2 e3
  subst e1 e3
  refine ⟨by omega, ?_⟩
  have hlen : (l.take k).length = k := by rw [List.length_take, Nat.min_eq_left hk]
  refine Sr.of (n := k) ⟨by rw [rrs_len, hlen], by omega, a, cap, rfl, by omega, h4, h5, ?_⟩ hlen
  rcases h6 with h6 | ⟨b, off, e1, hb, hc⟩
  · left
    apply List.eq_nil_of_length_eq_zero
    have h7 := congrArg List.length h6
    rw [rrs_len] at h7
    rw [rrs_len, hlen]
    simp only [List.length_nil] at h7
    omega
  · refine .inr ⟨b, off, e1, hb, fun i hi => ?_⟩
    rw [rrs_len, hlen] at hi
    have hi2 : i < (rrs l).length := by rw [rrs_len]; omega
    rw [hc i hi2]
    congr 1
    have h8 : rrs l = rrs (l.take k) ++ rrs (l.drop k) := by rw [← rrs_app, List.take_append_drop]
    have h9 : (rrs l)[i]? = (rrs (l.take k))[i]? := by
      rw [h8, List.getElem?_append_left (by rw [rrs_len, hlen]; exact hi)]
    rw [List.getElem?_eq_getElem hi2, List.getElem?_eq_getElem (by rw [rrs_len, hlen]; exact hi)] at h9
    exact Option.some.inj h9
set_option maxHeartbeats 4000000 in
theorem judgeParts_walk (w : World) {v : Value} {l : List RR} (h : Sr w w.heap.size v l) {at_ : Int} (_hat : (Lit.int .i64 at_).wf = true) :
    Calls Try.prog 6 #[v, .int .i64 at_] w fun e w' => e = .returned (.bool true) ∧ Below w.heap.size w w' := by
  have HB := Lib.hid (begun_c w)
  have H := Lib.hid h
  clear h
  go_enter Try.func6, Try.ntmps6
  go_wp2_with (fail)
  refine HB.out.mono ?_
  rintro e w1 ⟨rfl, bel⟩
  have hz1 := bel.size
  have B1 := Lib.hid bel
  have HR := recs_c w1 v l (H.out.below hz1 bel (Nat.le_refl _)) 30 (by omega)
  rw [show ((30 : Nat) : Int) = 30 from rfl] at HR
  have HR2 := Lib.hid HR
  clear HR bel H HB
  go_wp2_with (fail)
  refine HR2.out.mono ?_
  rintro e w2 ⟨⟨u, rfl, sr⟩, bel⟩
  have hz2 := bel.size
  have B2 := Lib.hid (B1.out.trans (bel.mono hz1))
  have hL : ((l.take 30).map cutR).length ≤ 30 := by rw [List.length_map, List.length_take]; omega
  generalize (l.take 30).map cutR = L at *
  obtain ⟨a, cap, rfl, _⟩ := Sv.form sr
  have SR := Lib.hid sr
  clear bel sr HR2
  by_cases h1 : at_ < 0
  · go_wp2_with (fail)
    go_ret
    exact ⟨rfl, B2.out⟩
  · by_cases h2 : at_ > (L.length : Int)
    · go_wp2_with (fail)
      go_ret
      exact ⟨rfl, B2.out⟩
    · obtain ⟨j, rfl⟩ := Int.eq_ofNat_of_zero_le (by omega : 0 ≤ at_)
      have hj : j ≤ L.length := by omega
      obtain ⟨hjc, st⟩ := SR.out.take j hj
      have f1 := run_till39 a j L.length cap hjc
      have HO := Lib.hid (ofs_c w2 _ _ st (by rw [List.length_take]; omega))
      clear st
      go_wp2_with (fail)
      refine HO.out.mono ?_
      rintro e w3 ⟨⟨d, rfl, sp⟩, bel⟩
      have hz3 := bel.size
      have B3 := Lib.hid (B2.out.trans (bel.mono (by omega)))
      have B3' := Lib.hid bel
      have SP := Lib.hid sp
      clear bel sp HO f1
      go_wp2_with (fail)
      go_loopg [6, 7] L.length (fun q out i wr => ∃ k : Nat, k ≤ L.length ∧ L.length ≤ k + q ∧ i = .int .i64 (k : Int) ∧ Sp wr wr.heap.size out (ofF (L.take k)) ∧ Below w2.heap.size w2 wr)
      case atStart => exact ⟨j, hj, by omega, rfl, SP.out, B3'.out⟩
      case round =>
        obtain ⟨k, hk, hq, rfl, sp, bel⟩ := hrel
        have BEL := Lib.hid bel
        have SP' := Lib.hid sp
        have hwz := bel.size
        have hw0 := B2.out.size
        have SR' : Sr wr wr.heap.size (.slice a L.length cap) L := SR.out.below hwz bel (Nat.le_refl _)
        clear bel sp
        by_cases hlt : k < L.length
        · obtain ⟨b, off, rfl, hb, c0, c1, c2, c3, c4⟩ := SR'.at_ k hlt
          have i4 : (k : Int) < (L.length : Int) := by omega
          have HO := Lib.hid (ofF_succ hlt)
          have hlen : (ofF (L.take k)).length ≤ 999 := by
            have := ofF_len (L.take k)
            rw [List.length_take] at this
            omega
          have HS := Lib.hid (set_c wr _ _ L[k] SP'.out hlen)
          clear SR'
          generalize L[k] = r at *
          simp only [rrV] at HS
          go_wp2_with (fail)
          refine HS.out.mono ?_
          rintro e w5 ⟨⟨d5, rfl, sp⟩, bel⟩
          have SP5 := Lib.hid sp
          have B5 := Lib.hid (BEL.out.trans (bel.mono hwz))
          clear sp bel
          go_wp2_with (fail)
          go_roundg (L.length - (k + 1))
          case measure => omega
          case rel => exact ⟨k + 1, by omega, by omega, by go_num, by rw [HO.out]; exact SP5.out, B5.out⟩
        · have e : k = L.length := by omega
          subst e
          rw [List.take_length] at SP'
          have HOF := Lib.hid (ofs_c wr _ L SR' (by omega))
          clear SR'
          go_wp2_with (fail)
          refine HOF.out.mono ?_
          rintro e w5 ⟨⟨d5, rfl, sp⟩, bel⟩
          have HSM := Lib.hid (same_c w5 _ _ (ofF L) (ofF L) (SP'.out.below bel.size bel (Nat.le_refl _)) sp)
          have B5 := Lib.hid (BEL.out.trans (bel.mono hwz))
          clear sp bel
          go_wp2_with (fail)
          refine HSM.out.mono ?_
          rintro e w6 ⟨rfl, bel⟩
          have B6 := Lib.hid (B2.out.trans ((B5.out.trans (bel.mono B5.out.size)).mono hw0))
          clear bel
          go_wp2_with (fail)
          go_ret
          exact ⟨by simp, B6.out⟩
end Go.Proofs.Ytjokghnlmaaejaa
