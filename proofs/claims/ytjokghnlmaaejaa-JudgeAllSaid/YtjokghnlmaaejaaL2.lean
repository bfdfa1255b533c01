import Derived.Test.YtjokghnlmaaejaaL1
import Derived.Deep.RegionHeld3
namespace Go.Proofs.Ytjokghnlmaaejaa
open Go.RowKit
/-! ### begun -/
def kA : ByteArray := ⟨#[97]⟩
def kB : ByteArray := ⟨#[98]⟩
def kC : ByteArray := ⟨#[99]⟩
def b1 : List RR := [⟨kB, false, ⟨1, 1, ⟨#[]⟩⟩⟩, ⟨kA, false, ⟨1, 2, ⟨#[]⟩⟩⟩, ⟨kB, true, ⟨0, 0, ⟨#[]⟩⟩⟩]
def bl : List PR := [⟨kA, ⟨1, 2, ⟨#[]⟩⟩⟩]
def bm : List PR := [⟨kA, ⟨1, 2, ⟨#[]⟩⟩⟩, ⟨kC, ⟨1, 0, ⟨#[]⟩⟩⟩]
theorem begun1 : ofF b1 = bl := by decide +kernel
theorem begun2 : getF bl kA = (⟨1, 2, ⟨#[]⟩⟩, true) := by decide +kernel
theorem begun3 : getF bl kB = (raw0, false) := by decide +kernel
theorem begun4 : setF bl ⟨kC, false, ⟨1, 0, ⟨#[]⟩⟩⟩ = bm := by decide +kernel
theorem begun5 : sortedL bm = true := by decide +kernel
theorem begun6 : sortedL [⟨kC, ⟨1, 0, ⟨#[]⟩⟩⟩, ⟨kA, ⟨1, 2, ⟨#[]⟩⟩⟩] = false := by decide +kernel
theorem begun7 : decide (bl = bm) = false := by decide +kernel
set_option maxHeartbeats 4000000 in
set_option maxRecDepth 100000 in
theorem begun_c (w : World) : Calls Try.prog 7 #[] w fun e w' => e = .returned (.bool true) ∧ Below w.heap.size w w' := by
  have hb0 : Bl (w.alloc (.cells (rrs b1).toArray 26)) w.heap.size 26 (rrs b1) := Bl.new w 26 _
  have hsr : Sr (w.alloc (.cells (rrs b1).toArray 26)) (w.alloc (.cells (rrs b1).toArray 26)).heap.size (.slice (some ⟨w.heap.size, 0, none⟩) 3 3) b1 := by
    have := hb0.sv (B := (w.alloc (.cells (rrs b1).toArray 26)).heap.size) 5 0 3 3 (by simp) (by decide) (by decide) (by simp [maxLen])
    exact this
  have hbel : Below w.heap.size w (w.alloc (.cells (rrs b1).toArray 26)) := (Below.refl _ _).alloc (Nat.le_refl _) _
  have HSR := Lib.hid hsr
  have HBEL := Lib.hid hbel
  have hz0 := hbel.size
  clear hb0 hsr hbel
  go_enter Try.func7, Try.ntmps7
  go_wp2_with (fail)
  refine (ofs_c _ _ b1 HSR.out (by decide)).mono ?_
  rintro e w1 ⟨⟨u, rfl, sp⟩, bel⟩
  rw [begun1] at sp
  obtain ⟨ua, uc, rfl, _⟩ := Sv.form (show Sv w1 w1.heap.size 4 u 1 (prs bl) from sp)
  have sp : Sp w1 w1.heap.size (.slice ua 1 uc) bl := sp
  have SP1 := Lib.hid sp
  have B1 := Lib.hid (HBEL.out.trans (bel.mono hz0))
  clear sp bel HSR HBEL hz0
  go_wp2_with (fail)
  refine (get_c w1 _ bl kA SP1.out).mono ?_
  rw [begun2]
  rintro e w2 ⟨rfl, bel⟩
  have hz1 := B1.out.size
  have SP2 := Lib.hid (SP1.out.below bel.size bel (Nat.le_refl _))
  have B2 := Lib.hid (B1.out.trans (bel.mono hz1))
  clear bel SP1
  simp only [rawV]
  go_upto_region 3 with (fail)
  have hal : Below w2.heap.size w2 (w2.alloc (.cells #[.int .i64 1, .int .i64 2, .string ⟨#[]⟩] 24)) := (Below.refl _ _).alloc (Nat.le_refl _) _
  have hv : Bl (w2.alloc (.cells #[.int .i64 1, .int .i64 2, .string ⟨#[]⟩] 24)) w2.heap.size 24 [.int .i64 1, .int .i64 2, .string ⟨#[]⟩] := Bl.new w2 24 _
  generalize w2.alloc (.cells #[.int .i64 1, .int .i64 2, .string ⟨#[]⟩] 24) = w3 at *
  have hz2 := B2.out.size
  have SP3 := Lib.hid (SP2.out.below hal.size hal (Nat.le_refl _))
  have B3 := Lib.hid (B2.out.trans (hal.mono hz2))
  have HV := Lib.hid hv
  clear hal hv SP2
  go_wp2_with (fail)
  refine (get_c w3 _ bl kB SP3.out).mono ?_
  rw [begun3]
  rintro e w4 ⟨rfl, bel⟩
  have hz3 := B3.out.size
  have SP4 := Lib.hid (SP3.out.below bel.size bel (Nat.le_refl _))
  have B4 := Lib.hid (B3.out.trans (bel.mono hz3))
  have HV4 := Lib.hid (HV.out.below bel HV.out.lt)
  clear bel SP3
  simp only [rawV, raw0]
  go_upto_region 4 with (fail)
  have hal : Below w4.heap.size w4 (w4.alloc (.cells #[.int .i64 0, .int .i64 0, .string ByteArray.empty] 24)) := (Below.refl _ _).alloc (Nat.le_refl _) _
  generalize w4.alloc (.cells #[.int .i64 0, .int .i64 0, .string ByteArray.empty] 24) = w5 at *
  have hz4 := B4.out.size
  have SP5 := Lib.hid (SP4.out.below hal.size hal (Nat.le_refl _))
  have B5 := Lib.hid (B4.out.trans (hal.mono hz4))
  have HV5 := Lib.hid (HV4.out.below hal HV4.out.lt)
  clear hal SP4 HV HV4
  go_wp2_with (fail)
  refine (set_c w5 _ bl ⟨kC, false, ⟨1, 0, ⟨#[]⟩⟩⟩ SP5.out (by decide)).mono ?_
  rw [begun4]
  rintro e w6 ⟨⟨u, rfl, sp⟩, bel⟩
  obtain ⟨ma, mc, rfl, _⟩ := Sv.form (show Sv w6 w6.heap.size 4 u 2 (prs bm) from sp)
  have sp : Sp w6 w6.heap.size (.slice ma 2 mc) bm := sp
  have hz5 := B5.out.size
  have SL := Lib.hid (SP5.out.below bel.size bel (Nat.le_refl _))
  have B6 := Lib.hid (B5.out.trans (bel.mono hz5))
  have hv := HV5.out.below bel HV5.out.lt
  clear bel SP5 HV5
  obtain ⟨b, off, rfl, hb, m0, m1, m2, m3⟩ := sp.at_ 0 (by decide)
  obtain ⟨b', off', e', _, n0, n1, n2, n3⟩ := sp.at_ 1 (by decide)
  obtain ⟨rfl, rfl⟩ : b = b' ∧ off = off' := by injection e' with e'; injection e' with e1 e2; exact ⟨e1, e2⟩
  have SM := Lib.hid sp
  have v1 : w6.cell? ⟨w2.heap.size, 1, none⟩ = some (.int .i64 2) := hv.cell 1
  clear e' hv sp
  simp only [Nat.zero_mul, Nat.add_zero, Nat.one_mul] at m0 m1 m2 m3 n0 n1 n2 n3
  have oldS : ∀ w' : World, Old w6 w' → w'.cell? ⟨w2.heap.size, 1, none⟩ = some (.int .i64 2) ∧ w'.cell? ⟨b, off, none⟩ = some (.string ⟨#[97]⟩) ∧ w'.cell? ⟨b, off + 1, none⟩ = some (.int .i64 1) ∧ w'.cell? ⟨b, off + 2, none⟩ = some (.int .i64 2) ∧ w'.cell? ⟨b, off + 3, none⟩ = some (.string ⟨#[]⟩) ∧ w'.cell? ⟨b, off + 4, none⟩ = some (.string ⟨#[99]⟩) ∧ w'.cell? ⟨b, off + 5, none⟩ = some (.int .i64 1) ∧ w'.cell? ⟨b, off + 6, none⟩ = some (.int .i64 0) ∧ w'.cell? ⟨b, off + 7, none⟩ = some (.string ⟨#[]⟩) ∧ Old w6 w' := fun w' h => ⟨(Below.cell h (lt_of_cell v1)).trans v1, (Below.cell h (lt_of_cell m0)).trans m0, (Below.cell h (lt_of_cell m1)).trans m1, (Below.cell h (lt_of_cell m2)).trans m2, (Below.cell h (lt_of_cell m3)).trans m3, (Below.cell h (lt_of_cell n0)).trans n0, (Below.cell h (lt_of_cell n1)).trans n1, (Below.cell h (lt_of_cell n2)).trans n2, (Below.cell h (lt_of_cell n3)).trans n3, h⟩
  have spl : ∀ w' : World, Old w6 w' → Sp w' w'.heap.size (.slice ua 1 uc) bl := fun w' h => SL.out.below h.size h (Nat.le_refl _)
  have spm : ∀ w' : World, Old w6 w' → Sp w' w'.heap.size (.slice (some ⟨b, off, none⟩) 2 mc) bm := fun w' h => SM.out.below h.size h (Nat.le_refl _)
  have sorted_m : ∀ w' : World, Old w6 w' → Calls Try.prog 13 #[.slice (some ⟨b, off, none⟩) 2 mc] w' fun e w'' => e = .returned (.bool true) ∧ Old w6 w'' := fun w' h => (sorted_c w' _ bm (spm w' h)).mono fun e w'' hh => ⟨by rw [hh.1, begun5], h.trans (hh.2.mono h.size)⟩
  have same_l : ∀ w' : World, Old w6 w' → Calls Try.prog 15 #[.slice ua 1 uc, .slice ua 1 uc] w' fun e w'' => e = .returned (.bool true) ∧ Old w6 w'' := fun w' h => (same_c w' _ _ bl bl (spl w' h) (spl w' h)).mono fun e w'' hh => ⟨by rw [hh.1]; simp, h.trans (hh.2.mono h.size)⟩
  have same_m : ∀ w' : World, Old w6 w' → Calls Try.prog 15 #[.slice ua 1 uc, .slice (some ⟨b, off, none⟩) 2 mc] w' fun e w'' => e = .returned (.bool false) ∧ Old w6 w'' := fun w' h => (same_c w' _ _ bl bm (spl w' h) (spm w' h)).mono fun e w'' hh => ⟨by rw [hh.1, begun7], h.trans (hh.2.mono h.size)⟩
  have fin : ∀ w' : World, Old w6 w' → Calls Try.prog 13 #[.slice (some ⟨w'.heap.size, 0, none⟩) 2 2] (w'.alloc (.cells #[.string ⟨#[99]⟩, .int .i64 1, .int .i64 0, .string ⟨#[]⟩, .string ⟨#[97]⟩, .int .i64 1, .int .i64 2, .string ⟨#[]⟩] 48)) fun e w'' => e = .returned (.bool false) ∧ Old w6 w'' := fun w' h => by
    have hb : Bl (w'.alloc (.cells #[.string ⟨#[99]⟩, .int .i64 1, .int .i64 0, .string ⟨#[]⟩, .string ⟨#[97]⟩, .int .i64 1, .int .i64 2, .string ⟨#[]⟩] 48)) w'.heap.size 48 (prs [⟨kC, ⟨1, 0, ⟨#[]⟩⟩⟩, ⟨kA, ⟨1, 2, ⟨#[]⟩⟩⟩]) := Bl.new w' 48 _
    have hs := hb.sv (B := (w'.alloc (.cells #[.string ⟨#[99]⟩, .int .i64 1, .int .i64 0, .string ⟨#[]⟩, .string ⟨#[97]⟩, .int .i64 1, .int .i64 2, .string ⟨#[]⟩] 48)).heap.size) 4 0 2 2 (by simp) (by decide) (by decide) (by simp [maxLen])
    have ho : Old w6 (w'.alloc (.cells #[.string ⟨#[99]⟩, .int .i64 1, .int .i64 0, .string ⟨#[]⟩, .string ⟨#[97]⟩, .int .i64 1, .int .i64 2, .string ⟨#[]⟩] 48)) := Below.alloc h h.size _
    exact (sorted_c _ _ [⟨kC, ⟨1, 0, ⟨#[]⟩⟩⟩, ⟨kA, ⟨1, 2, ⟨#[]⟩⟩⟩] hs).mono fun e w'' hh => ⟨by rw [hh.1, begun6], ho.trans (hh.2.mono ho.size)⟩
  have FIN := Lib.hid fin
  clear fin
  have OS := Lib.hid oldS
  have SRM := Lib.hid sorted_m
  have SML := Lib.hid same_l
  have SMM := Lib.hid same_m
  clear oldS spl spm sorted_m same_l same_m v1 m0 m1 m2 m3 n0 n1 n2 n3
  go_upto_region 5 with (fail)
  first | go_region_held3 (fun w' => w'.cell? ⟨w2.heap.size, 1, none⟩ = some (.int .i64 2) ∧ w'.cell? ⟨b, off, none⟩ = some (.string ⟨#[97]⟩) ∧ w'.cell? ⟨b, off + 1, none⟩ = some (.int .i64 1) ∧ w'.cell? ⟨b, off + 2, none⟩ = some (.int .i64 2) ∧ w'.cell? ⟨b, off + 3, none⟩ = some (.string ⟨#[]⟩) ∧ w'.cell? ⟨b, off + 4, none⟩ = some (.string ⟨#[99]⟩) ∧ w'.cell? ⟨b, off + 5, none⟩ = some (.int .i64 1) ∧ w'.cell? ⟨b, off + 6, none⟩ = some (.int .i64 0) ∧ w'.cell? ⟨b, off + 7, none⟩ = some (.string ⟨#[]⟩) ∧ Old w6 w') (first | exact OS.out _ (Old.start _) | exact OS.out _ hO | exact OS.out _ (Below.alloc hO hO.size _)) (first
    | (go_at_call_of 13 (Value.slice (some ⟨b, off, none⟩) 2 mc); refine (SRM.out _ ?_).mono ?_; (first | exact Old.start _ | assumption); rintro e w9 ⟨rfl, hO⟩)
    | (go_at_call_of 15 (Value.slice ua 1 uc); refine (SML.out _ ?_).mono ?_; assumption; rintro e w10 ⟨rfl, hO⟩)
    | (go_at_call_of 15 (Value.slice ua 1 uc); refine (SMM.out _ ?_).mono ?_; assumption; rintro e w11 ⟨rfl, hO⟩)
    | (go_at_call 13; refine (FIN.out _ ?_).mono ?_; assumption; rintro e w12 ⟨rfl, hO⟩))
  all_goals
    go_wp2_with (fail)
    go_ret
    exact ⟨rfl, B6.out.trans (hO.mono B6.out.size)⟩
end Go.Proofs.Ytjokghnlmaaejaa
