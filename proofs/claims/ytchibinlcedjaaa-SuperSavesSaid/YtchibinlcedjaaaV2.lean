import Derived.Test.YtchibinlcedjaaaV1
import Derived.Deep.CutBlock
namespace Go.Proofs.Ytchibinlcedjaaa
open Go.RowKit
set_option maxHeartbeats 8000000 in
set_option maxRecDepth 100000 in
theorem superSaves_walk (w : World) {n at_ : Int} {vl : Value} {L : List (List UInt8)} (hn : (Lit.int .i64 n).wf = true) (ha : (Lit.int .i64 at_).wf = true) (hL : Sll w w.heap.size vl L) :
    Calls Try.prog 12 #[.int .i64 n, .int .i64 at_, vl] w fun e w' => e = .returned (.bool true) ∧ Below w.heap.size w w' := by
  have hn' := bounds_i64 hn
  have ha' := bounds_i64 ha
  have HL := Lib.hid hL
  obtain ⟨al, cl, rfl, hLl, hLi⟩ := hL
  clear hLi
  clear hn ha
  obtain ⟨N, hN⟩ : ∃ N : Nat, max 1 (min n 8) = (N : Int) := ⟨(max 1 (min n 8)).toNat, by omega⟩
  have hN1 : 1 ≤ N := by omega
  have hN8 : N ≤ 8 := by omega
  have hif : (if (1 : Int) < (if 8 < n then 8 else n) then (if 8 < n then 8 else n) else 1) = (N : Int) := by
    rcases (by omega : 8 < n ∨ ¬ 8 < n ∧ 1 < n ∨ ¬ 8 < n ∧ ¬ 1 < n) with h | ⟨h, h'⟩ | ⟨h, h'⟩
    · rw [if_pos h, if_pos (by decide)]; omega
    · rw [if_neg h, if_pos h']; omega
    · rw [if_neg h, if_neg h']; omega
  have HIF := Lib.hid hif
  clear hif hN
  go_enter Try.func12, Try.ntmps12
  go_wp2_with (fail)
  refine (begun12_c w).mono ?_
  rintro e w1 ⟨rfl, bel⟩
  have B1 := Lib.hid bel
  have hz1 := bel.size
  clear bel
  go_upto_region 5 with (fail)
  rw [HIF.out]
  generalize (if 8 < n then (8 : Int) else n) = q24 at *
  have HNW := new_k w1 (N : Int)
  rw [show (min (max (N : Int) 1) 2048).toNat = N by omega] at HNW
  have HNW := Lib.hid HNW
  have hN1' : (1 : Int) ≤ (N : Int) := by omega
  have hN8' : (N : Int) ≤ 8 := by omega
  go_wp2_with (fail)
  refine HNW.out.mono ?_
  rintro e w2 ⟨⟨p, b, rfl, hp, hb, hD⟩, bel⟩
  have B2 := Lib.hid (B1.out.trans (bel.mono hz1))
  have hz2 := B2.out.size
  have HD2 := Lib.hid hD
  clear hD bel HNW
  have hsl : (clean (List.replicate N zero64) 0).secs.length = N := by simp [clean]
  have HSL := Lib.hid hsl
  clear hsl
  by_cases hlo : at_ < 0
  · have HMO := Lib.hid (make_out w2 p b _ HD2.out at_ (.inl hlo) _ [] 0 (Sv.nil _ _ _) (by decide))
    go_wp2_with (fail)
    refine HMO.out.mono ?_
    rintro e w' ⟨rfl, rfl⟩
    go_wp2_with (fail)
    go_ret
    exact ⟨rfl, B2.out⟩
  by_cases hhi : (N : Int) - 2 < at_
  · have HMO := Lib.hid (make_out w2 p b _ HD2.out at_ (.inr (by rw [HSL.out]; omega)) _ [] 0 (Sv.nil _ _ _) (by decide))
    go_wp2_with (fail)
    refine HMO.out.mono ?_
    rintro e w' ⟨rfl, rfl⟩
    go_wp2_with (fail)
    go_ret
    exact ⟨rfl, B2.out⟩
  obtain ⟨a, rfl⟩ : ∃ a : Nat, at_ = (a : Int) := ⟨at_.toNat, by omega⟩
  have haN : a + 1 < N := by omega
  have HM := Lib.hid (make_k w2 p b _ (full_zero N) 0 HD2.out (by decide) a (by rw [List.length_replicate]; exact haN) _ [] (fun w' _ => Sv.nil _ _ _) (by decide))
  have hh := Holds.make (List.replicate N zero64) a (by rw [List.length_replicate]; exact haN) [] (by decide)
  have hf := full_make (full_zero N) a [] (by decide)
  obtain ⟨X0, hX0⟩ : ∃ X, X = (((List.replicate N zero64).set a zero64).set (a + 1) zero64).set a (img 1 []) := ⟨_, rfl⟩
  unfold MadeX at HM
  rw [← hX0] at HM hh hf
  have HH0 := Lib.hid hh
  have HF0 := Lib.hid hf
  clear hh hf hX0
  go_wp2_with (fail)
  refine HM.out.mono ?_
  rintro e w3 ⟨⟨s, rfl, hs3, hS⟩, hD, f⟩
  have HD3 := Lib.hid hD
  have HS3 := Lib.hid hS
  have B3 := Lib.hid (B2.out.trans (f.below (B := w.heap.size) hz2 (by simp; omega)))
  have hz3 := B3.out.size
  clear hD hS f HM
  go_upto_block 0 with (fail)
  go_cut [] (fun wx => ∃ D, DevAt wx p b D ∧ D.loose = [] ∧ Below w.heap.size w wx)
  case rest =>
    obtain ⟨D, hD, hlo, bel⟩ := hcut
    have HD := Lib.hid hD
    have B4 := Lib.hid bel
    have hz4 := bel.size
    have hlo := Lib.hid hlo
    clear hD bel
    obtain ⟨w4, rfl⟩ : ∃ w4 : World, w4 = wc := ⟨_, rfl⟩
    go_wp2_with (fail)
    refine (loose_c w4 p b D HD.out).mono ?_
    rintro e w5 ⟨⟨v, rfl, own⟩, bel⟩
    rw [hlo.out] at own
    obtain ⟨a5, c5, rfl⟩ := own_form own
    have hl0 : ([] : List Int).length = 0 := rfl
    have B5 := Lib.hid (B4.out.trans (bel.mono hz4))
    clear own bel
    go_wp2_with (fail)
    go_ret
    exact ⟨rfl, B5.out⟩
  case first =>
  go_wp2_with (fail)
  go_loopg [11, 12, 13] L.length (fun q s11 s12 i wr => ∃ (k : Nat) (X : List (List UInt8)) (c : Nat) (x0 : Int) (n : Nat) (text : List UInt8), k + q = L.length ∧ s11 = .string (str text) ∧ s12 = .int .i64 (n : Int) ∧ i = .int .i64 (k : Int) ∧ DevAt wr p b (clean X c) ∧ Full X ∧ Holds X a x0 n text ∧ SupX wr s p a x0 n text ∧ (k ≤ 12 ∧ n ≤ 1 + k ∧ c ≤ 4 + 2 * k) ∧ Below w.heap.size w wr)
  case atStart => exact ⟨0, X0, 4, 0, 1, [], by omega, rfl, rfl, rfl, HD3.out, HF0.out, HH0.out, HS3.out, ⟨by omega, by omega, by omega⟩, B3.out⟩
  case round =>
    obtain ⟨k, X, c, x0, n, text, hk, rfl, rfl, rfl, hD, hXf, hh, hS, ⟨hk12, hnk, hck⟩, bel⟩ := hrel
    have HD := Lib.hid hD
    have HS := Lib.hid hS
    have HH := Lib.hid hh
    have BEL := Lib.hid bel
    have hzr := bel.size
    have hsl := hh.slot
    have hlen := hh.len
    clear hD hS hh bel
    by_cases hlt : k < L.length ∧ k < 12
    · obtain ⟨hlt, h12⟩ := hlt
      obtain ⟨_, _, e0, _, hLi⟩ := HL.out
      injection e0 with e1 e2 e3
      subst e1 e3
      obtain ⟨gb, go, vi, rfl, hgb, hgc, hvi⟩ := hLi k hlt
      rw [← BEL.out.cell (p := ⟨gb, go + k, none⟩) hgb] at hgc
      have HSH := Lib.hid (short_c vi L[k] 45 wr w.heap.size (Sv.below hvi (Nat.le_refl _) BEL.out (Nat.le_refl _)) (by decide))
      obtain ⟨ai, ci, rfl, _⟩ := Sv.form hvi
      generalize L[k] = li at *
      clear hLi hvi
      go_wp2_with (fail)
      refine HSH.out.mono ?_
      rintro e w' ⟨⟨v14, rfl, hv14⟩, rfl⟩
      obtain ⟨lb, hlb⟩ : ∃ lb, Hid (li.take 45 = lb) := ⟨_, rfl⟩
      rw [hlb.out] at hv14
      obtain ⟨a14, c14, rfl, hlm⟩ := Sv.form hv14
      have HV := Lib.hid hv14
      clear hv14 HSH
      by_cases hle : lb.length ≤ 40
      · skip
        have hle' : (lb.length : Int) ≤ 40 := by omega
        have HSV := Lib.hid (save_k wr s p b X hXf c a x0 n text HS.out HD.out (by omega) hlen hsl.1 hsl.2 (by omega) _ lb (Sl.keeps (B := w.heap.size) HV.out hzr (by simp; omega)) hle)
        have hh := HH.out.save lb hle (by omega)
        have hYf := hXf.set ((a : Int) + (1 - x0)).toNat (img_len (n + 1) lb (by omega))
        obtain ⟨Y, hY⟩ : ∃ Y, Hid (X.set ((a : Int) + (1 - x0)).toNat (img (n + 1) lb) = Y) := ⟨_, rfl⟩
        unfold Saved at HSV
        rw [hY.out] at HSV hh hYf
        go_wp2_with (fail)
        refine HSV.out.mono ?_
        rintro e w7 ⟨rfl, hD, hS, f⟩
        have b7 := BEL.out.trans (f.below (B := w.heap.size) hzr (by simp; omega))
        have cs := Sl.str (Sv.below HV.out (Nat.le_refl _) (BEL.out.trans (f.below (B := w.heap.size) hzr (by simp; omega)) |> fun _ => f.below (B := w.heap.size) hzr (by simp; omega)) (Nat.le_refl _))
        have hw : IntKind.wrap .i64 ((n : Int) + 1) = ((n + 1 : Nat) : Int) := by
          simp [IntKind.wrap, IntKind.bits, IntKind.signed]
          omega
        clear f
        have HH7 := Lib.hid hh
        have HD7 := Lib.hid hD
        have HS7 := Lib.hid hS
        have B7 := Lib.hid b7
        have hz7 := b7.size
        clear hh hD hS b7
        go_wp2_with (fail)
        refine (open_any w7 p b _ Y HD7.out (map_now Y (c + 2)) a (1 - x0) (n + 1) lb HH7.out).mono ?_
        rintro e w8 ⟨⟨s8, rfl, hs8, hS⟩, bel⟩
        have HT8 := Lib.hid hS
        have HS8 := Lib.hid (HS7.out.below bel)
        have HD8 := Lib.hid (HD7.out.below bel HD7.out.lt.1 HD7.out.lt.2)
        have B8 := Lib.hid (B7.out.trans (bel.mono hz7))
        have hz8 := B8.out.size
        clear hS bel
        go_wp2_with (fail)
        refine (crash_k0 w8 p b _ _ HD8.out).mono ?_
        rintro e w9 ⟨⟨p9, b9, rfl, hp9, hb9, hD⟩, bel⟩
        have HC9 := Lib.hid hD
        have HT9 := Lib.hid (HT8.out.below bel)
        have HS9 := Lib.hid (HS8.out.below bel)
        have HD9 := Lib.hid (HD8.out.below bel HD8.out.lt.1 HD8.out.lt.2)
        have B9 := Lib.hid (B8.out.trans (bel.mono hz8))
        have hz9 := B9.out.size
        clear hD bel
        go_wp2_with (fail)
        refine (open_any w9 p9 b9 _ Y HC9.out (map_now Y 0) a (1 - x0) (n + 1) lb HH7.out).mono ?_
        rintro e w10 ⟨⟨s10, rfl, hs10, hS⟩, bel⟩
        have HU10 := Lib.hid hS
        have HT10 := Lib.hid (HT9.out.below bel)
        have HS10 := Lib.hid (HS9.out.below bel)
        have HD10 := Lib.hid (HD9.out.below bel HD9.out.lt.1 HD9.out.lt.2)
        have B10 := Lib.hid (B9.out.trans (bel.mono hz9))
        have hz10 := B10.out.size
        have htl : lb.length ≤ 1000 := by have := HH7.out.2.2.1; omega
        have hq : (str lb == str lb) = true := by rw [str_beq]; simp
        clear hS bel
        obtain ⟨ST, hST⟩ : ∃ S, S = str lb := ⟨_, rfl⟩
        rw [← hST] at hq
        try rw [← hST]
        have HST := Lib.hid hST
        clear hST
        go_wp2_with (fail)
        refine (text_k w10 s8 p _ _ _ lb HT10.out htl).mono ?_
        rintro e w11 ⟨⟨v11, rfl, own⟩, bel⟩
        have cs1 := Sl.str (Sl.of_own own)
        rw [← HST.out] at cs1
        have HU11 := Lib.hid (HU10.out.below bel)
        have HT11 := Lib.hid (HT10.out.below bel)
        have HS11 := Lib.hid (HS10.out.below bel)
        have HD11 := Lib.hid (HD10.out.below bel HD10.out.lt.1 HD10.out.lt.2)
        have B11 := Lib.hid (B10.out.trans (bel.mono hz10))
        have hz11 := B11.out.size
        clear own bel
        go_wp2_with (fail)
        refine (turn_k w11 s8 p _ _ _ lb HT11.out).mono ?_
        rintro e w' ⟨rfl, rfl⟩
        go_wp2_with (fail)
        refine (text_k w11 s10 p9 _ _ _ lb HU11.out htl).mono ?_
        rintro e w12 ⟨⟨v12, rfl, own⟩, bel⟩
        have cs2 := Sl.str (Sl.of_own own)
        rw [← HST.out] at cs2
        have HS12 := Lib.hid (HS11.out.below bel)
        have HD12 := Lib.hid (HD11.out.below bel HD11.out.lt.1 HD11.out.lt.2)
        have B12 := Lib.hid (B11.out.trans (bel.mono hz11))
        have hz12 := B12.out.size
        clear own bel cs1
        go_wp2_with (fail)
        refine (text_k w12 s p _ _ _ lb HS12.out htl).mono ?_
        rintro e w13 ⟨⟨v13, rfl, own⟩, bel⟩
        have cs3 := Sl.str (Sl.of_own own)
        rw [← HST.out] at cs3
        have HS13 := Lib.hid (HS12.out.below bel)
        have HD13 := Lib.hid (HD12.out.below bel HD12.out.lt.1 HD12.out.lt.2)
        have B13 := Lib.hid (B12.out.trans (bel.mono hz12))
        have hz13 := B13.out.size
        clear own bel cs2
        go_wp2_with (fail)
        refine (turn_k w13 s p _ _ _ lb HS13.out).mono ?_
        rintro e w' ⟨rfl, rfl⟩
        go_wp2_with (fail)
        go_roundg (L.length - (k + 1))
        case measure => omega
        case rel => exact ⟨k + 1, Y, (c + 2), (1 - x0), (n + 1), lb, by omega, by rw [HST.out], by go_num, by go_num, HD13.out, hYf, HH7.out, HS13.out, ⟨by omega, by omega, by omega⟩, B13.out⟩
      · skip
        have hle' : (40 : Int) < (lb.length : Int) := by omega
        have HSV := Lib.hid (save_long wr s _ lb _ HV.out (by omega))
        have hh := HH.out
        have hYf := hXf
        go_wp2_with (fail)
        refine HSV.out.mono ?_
        rintro e w' ⟨rfl, rfl⟩
        have hD := HD.out
        have hS := HS.out
        have b7 := BEL.out
        have HH7 := Lib.hid hh
        have HD7 := Lib.hid hD
        have HS7 := Lib.hid hS
        have B7 := Lib.hid b7
        have hz7 := b7.size
        clear hh hD hS b7
        go_wp2_with (fail)
        refine (open_any wr p b _ X HD7.out (map_now X c) a x0 n text HH7.out).mono ?_
        rintro e w8 ⟨⟨s8, rfl, hs8, hS⟩, bel⟩
        have HT8 := Lib.hid hS
        have HS8 := Lib.hid (HS7.out.below bel)
        have HD8 := Lib.hid (HD7.out.below bel HD7.out.lt.1 HD7.out.lt.2)
        have B8 := Lib.hid (B7.out.trans (bel.mono hz7))
        have hz8 := B8.out.size
        clear hS bel
        go_wp2_with (fail)
        refine (crash_k0 w8 p b _ _ HD8.out).mono ?_
        rintro e w9 ⟨⟨p9, b9, rfl, hp9, hb9, hD⟩, bel⟩
        have HC9 := Lib.hid hD
        have HT9 := Lib.hid (HT8.out.below bel)
        have HS9 := Lib.hid (HS8.out.below bel)
        have HD9 := Lib.hid (HD8.out.below bel HD8.out.lt.1 HD8.out.lt.2)
        have B9 := Lib.hid (B8.out.trans (bel.mono hz8))
        have hz9 := B9.out.size
        clear hD bel
        go_wp2_with (fail)
        refine (open_any w9 p9 b9 _ X HC9.out (map_now X 0) a x0 n text HH7.out).mono ?_
        rintro e w10 ⟨⟨s10, rfl, hs10, hS⟩, bel⟩
        have HU10 := Lib.hid hS
        have HT10 := Lib.hid (HT9.out.below bel)
        have HS10 := Lib.hid (HS9.out.below bel)
        have HD10 := Lib.hid (HD9.out.below bel HD9.out.lt.1 HD9.out.lt.2)
        have B10 := Lib.hid (B9.out.trans (bel.mono hz9))
        have hz10 := B10.out.size
        have htl : text.length ≤ 1000 := by have := HH7.out.2.2.1; omega
        have hq : (str text == str text) = true := by rw [str_beq]; simp
        clear hS bel
        obtain ⟨ST, hST⟩ : ∃ S, S = str text := ⟨_, rfl⟩
        rw [← hST] at hq
        try rw [← hST]
        have HST := Lib.hid hST
        clear hST
        go_wp2_with (fail)
        refine (text_k w10 s8 p _ _ _ text HT10.out htl).mono ?_
        rintro e w11 ⟨⟨v11, rfl, own⟩, bel⟩
        have cs1 := Sl.str (Sl.of_own own)
        rw [← HST.out] at cs1
        have HU11 := Lib.hid (HU10.out.below bel)
        have HT11 := Lib.hid (HT10.out.below bel)
        have HS11 := Lib.hid (HS10.out.below bel)
        have HD11 := Lib.hid (HD10.out.below bel HD10.out.lt.1 HD10.out.lt.2)
        have B11 := Lib.hid (B10.out.trans (bel.mono hz10))
        have hz11 := B11.out.size
        clear own bel
        go_wp2_with (fail)
        refine (turn_k w11 s8 p _ _ _ text HT11.out).mono ?_
        rintro e w' ⟨rfl, rfl⟩
        go_wp2_with (fail)
        refine (text_k w11 s10 p9 _ _ _ text HU11.out htl).mono ?_
        rintro e w12 ⟨⟨v12, rfl, own⟩, bel⟩
        have cs2 := Sl.str (Sl.of_own own)
        rw [← HST.out] at cs2
        have HS12 := Lib.hid (HS11.out.below bel)
        have HD12 := Lib.hid (HD11.out.below bel HD11.out.lt.1 HD11.out.lt.2)
        have B12 := Lib.hid (B11.out.trans (bel.mono hz11))
        have hz12 := B12.out.size
        clear own bel cs1
        go_wp2_with (fail)
        refine (text_k w12 s p _ _ _ text HS12.out htl).mono ?_
        rintro e w13 ⟨⟨v13, rfl, own⟩, bel⟩
        have cs3 := Sl.str (Sl.of_own own)
        rw [← HST.out] at cs3
        have HS13 := Lib.hid (HS12.out.below bel)
        have HD13 := Lib.hid (HD12.out.below bel HD12.out.lt.1 HD12.out.lt.2)
        have B13 := Lib.hid (B12.out.trans (bel.mono hz12))
        have hz13 := B13.out.size
        clear own bel cs2
        go_wp2_with (fail)
        refine (turn_k w13 s p _ _ _ text HS13.out).mono ?_
        rintro e w' ⟨rfl, rfl⟩
        go_wp2_with (fail)
        go_roundg (L.length - (k + 1))
        case measure => omega
        case rel => exact ⟨k + 1, X, c, x0, n, text, by omega, by rw [HST.out], by go_num, by go_num, HD13.out, hYf, HH7.out, HS13.out, ⟨by omega, by omega, by omega⟩, B13.out⟩
    · have hex : (L.length : Int) ≤ (k : Int) ∨ (k : Int) < (L.length : Int) ∧ 12 ≤ (k : Int) := by omega
      clear hlt hk hk12 hnk hck
      rcases hex with h | ⟨h, h'⟩
      all_goals
        go_wp2_with (fail)
        go_meet
        exact ⟨_, HD.out, clean_loose X c, BEL.out⟩
end Go.Proofs.Ytchibinlcedjaaa
