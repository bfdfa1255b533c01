import Derived.Test.YtchibinlcedjaaaU4
namespace Go.Proofs.Ytchibinlcedjaaa
open Go.RowKit
theorem Sl.later2 {w w1 : World} {v : Value} {l : List UInt8} (h : Sl w w.heap.size v l) (b : Below w.heap.size w w1) {S : List Nat} (hS : ∀ k ∈ S, w.heap.size ≤ k) : ∀ w', Fr S w1 w' → Sl w' w'.heap.size v l :=
  Sl.keeps (B := w.heap.size) (Sv.below h (Nat.le_refl _) b (Nat.le_refl _)) b.size hS
set_option maxHeartbeats 8000000 in
set_option maxRecDepth 100000 in
theorem superCrash_walk (w : World) {va vb vc vk : Value} {l1 l2 l3 : List UInt8} {f : Int} {kl : List Bool} (ha : Sl w w.heap.size va l1) (hb : Sl w w.heap.size vb l2) (hc : Sl w w.heap.size vc l3) (hf : (Lit.int .i64 f).wf = true) (hk : Sb w w.heap.size vk kl) :
    Calls Try.prog 11 #[va, vb, vc, .int .i64 f, vk] w fun e w' => e = .returned (.bool true) ∧ Below w.heap.size w w' := by
  have hf' := bounds_i64 hf
  have HA := Lib.hid ha
  have HB := Lib.hid hb
  have HC := Lib.hid hc
  have HK := Lib.hid hk
  obtain ⟨aa, ca, rfl, _⟩ := Sv.form ha
  obtain ⟨ab, cb, rfl, _⟩ := Sv.form hb
  obtain ⟨ac, cc, rfl, _⟩ := Sv.form hc
  obtain ⟨ak, ck, rfl, _⟩ := Sv.form hk
  clear ha hb hc hk hf
  go_enter Try.func11, Try.ntmps11
  go_wp2_with (fail)
  refine (begun12_c w).mono ?_
  rintro e w1 ⟨rfl, bel⟩
  have B1 := Lib.hid bel
  have hz1 := bel.size
  clear bel
  have HSA := Lib.hid (short_c _ l1 40 w1 w.heap.size (Sv.below HA.out (Nat.le_refl _) B1.out (Nat.le_refl _)) (by decide))
  have HSB := Lib.hid (short_c _ l2 40 w1 w.heap.size (Sv.below HB.out (Nat.le_refl _) B1.out (Nat.le_refl _)) (by decide))
  have HSC := Lib.hid (short_c _ l3 40 w1 w.heap.size (Sv.below HC.out (Nat.le_refl _) B1.out (Nat.le_refl _)) (by decide))
  go_wp2_with (fail)
  refine HSA.out.mono ?_
  rintro e w' ⟨⟨va, rfl, hva⟩, rfl⟩
  have HVA := Lib.hid hva
  clear hva
  go_wp2_with (fail)
  refine HSB.out.mono ?_
  rintro e w' ⟨⟨vb, rfl, hvb⟩, rfl⟩
  have HVB := Lib.hid hvb
  clear hvb
  go_wp2_with (fail)
  refine HSC.out.mono ?_
  rintro e w' ⟨⟨vc, rfl, hvc⟩, rfl⟩
  have HVC := Lib.hid hvc
  clear hvc
  obtain ⟨la, hla⟩ : ∃ la, Hid (l1.take 40 = la) := ⟨_, rfl⟩
  obtain ⟨lb, hlb⟩ : ∃ la, Hid (l2.take 40 = la) := ⟨_, rfl⟩
  obtain ⟨lc, hlc⟩ : ∃ la, Hid (l3.take 40 = la) := ⟨_, rfl⟩
  have ha40 : la.length ≤ 40 := by rw [← hla.out]; exact List.length_take_le _ _
  have hb40 : lb.length ≤ 40 := by rw [← hlb.out]; exact List.length_take_le _ _
  have hc40 : lc.length ≤ 40 := by rw [← hlc.out]; exact List.length_take_le _ _
  rw [hla.out] at HVA
  rw [hlb.out] at HVB
  rw [hlc.out] at HVC
  clear HSA HSB HSC HA HB HC
  by_cases hlo : f < 0
  · go_wp2_with (fail)
    go_ret
    exact ⟨rfl, B1.out⟩
  by_cases hhi : 5 < f
  · go_wp2_with (fail)
    go_ret
    exact ⟨rfl, B1.out⟩
  have hf0 : 0 ≤ f := by omega
  have hf5 : f ≤ 5 := by omega
  obtain ⟨aa, ca, rfl, _⟩ := Sv.form HVA.out
  obtain ⟨ab, cb, rfl, _⟩ := Sv.form HVB.out
  obtain ⟨ac, cc, rfl, _⟩ := Sv.form HVC.out
  go_wp2_with (fail)
  refine (new_k w1 2).mono ?_
  rintro e w2 ⟨⟨p, b, rfl, hp, hb, hD⟩, bel2⟩
  change DevAt w2 p b (clean [zero64, zero64] 0) at hD
  have C2 := Lib.hid (bel2.mono hz1)
  have hz12 := bel2.size
  have HM := Lib.hid (make_k w2 p b [zero64, zero64] (full_zero 2) 0 hD (by decide) 0 (by decide) _ la (Sl.keeps (B := w.heap.size) (Sv.below HVA.out (Nat.le_refl _) C2.out (Nat.le_refl _)) (by omega) (by simp; omega)) ha40)
  clear hD bel2
  go_wp2_with (fail)
  refine HM.out.mono ?_
  rintro e w3 ⟨⟨s, rfl, hs3, hS⟩, hD, f3⟩
  change DevAt w3 p b (clean [img 1 la, zero64] 4) at hD
  have C3 := Lib.hid (C2.out.trans (f3.below (B := w.heap.size) (by omega) (by simp; omega)))
  have hz3 := f3.size
  have HF := Lib.hid (fuse_c w3 p b _ hD f (by omega))
  have HS3 := Lib.hid hS
  have HD3 := Lib.hid hD
  clear hD f3 hS HM
  go_wp2_with (fail)
  refine HF.out.mono ?_
  rintro e w4 ⟨rfl, hD, f4⟩
  have C4 := Lib.hid (C3.out.trans (f4.below (B := w.heap.size) (by omega) (by simp; omega)))
  have hz4 := f4.size
  have HS4 := Lib.hid (HS3.out.fr_dev HD3.out (f4.mono (by simp)))
  have HSV := Lib.hid (save_c w4 s p b _ 0 0 1 la HS4.out hD (by show 4 ≤ 100000; decide) (by decide) (by decide) (by decide) (by decide) (by decide) _ lb (Sl.keeps (B := w.heap.size) (Sv.below HVB.out (Nat.le_refl _) C4.out (Nat.le_refl _)) (by omega) (by simp; omega)) hb40)
  clear hD f4 HF
  go_wp2_with (fail)
  refine HSV.out.mono ?_
  rintro e w5 ⟨rfl, hD, hS, f5⟩
  obtain ⟨z, hz, hcase⟩ := crash_law (img 1 la) (img 2 lb) (img_len 2 lb (by omega)) 4 kl f hf0
  change DevAt w5 p b (((clean [img 1 la, zero64] 4).fused f).swrite 1 (img 2 lb)) at hD
  change (if ((clean [img 1 la, zero64] 4).fused f).scode 1 (img 2 lb) = 0 then SupX w5 s p 0 (1 - 0) 2 lb else SupX w5 s p 0 0 1 la) at hS
  obtain ⟨sc, hsc⟩ : ∃ sc, Hid (((clean [img 1 la, zero64] 4).fused f).scode 1 (img 2 lb) = sc) := ⟨_, rfl⟩
  rw [show ((clean [img 1 la, zero64] 4).fused f).scode (0 + (1 - 0)) (img (1 + 1) lb) = sc from hsc.out]
  rw [hsc.out] at hS hcase
  have hS2 : ∃ (m : Int) (l : List UInt8), SupX w5 s p 0 (if sc = 0 then 1 - 0 else 0) m l ∧ ((sc = 0 ∧ m = 2) ∨ (sc ≠ 0 ∧ m = 1)) := by
    by_cases h : sc = 0
    · rw [if_pos h] at hS ⊢
      exact ⟨2, lb, hS, .inl ⟨h, rfl⟩⟩
    · rw [if_neg h] at hS ⊢
      exact ⟨1, la, hS, .inr ⟨h, rfl⟩⟩
  obtain ⟨m, ls, hS, hm⟩ := hS2
  have HS5 := Lib.hid hS
  have C5 := Lib.hid (C4.out.trans (f5.below (B := w.heap.size) (by omega) (by simp; omega)))
  have hz5 := f5.size
  have HCR := Lib.hid (crash_c w5 p b _ hD w.heap.size _ kl (Sv.below HK.out (Nat.le_refl _) (B1.out.trans C5.out) (Nat.le_refl _)) (by omega))
  rw [hz] at HCR
  have HZ := Lib.hid hz
  have HCASE := Lib.hid hcase
  have HM5 := Lib.hid hm
  clear hD hS f5 hz hcase hm HSV
  go_wp2_with (fail)
  refine (turn_k w5 s p _ _ _ _ HS5.out).mono ?_
  rintro e w' ⟨rfl, rfl⟩
  go_wp2_with (fail)
  refine HCR.out.mono ?_
  rintro e w6 ⟨⟨p4, b4, rfl, hp4, hb4, hD⟩, bel6⟩
  have C6 := Lib.hid (C5.out.trans (bel6.mono (by omega)))
  have hz6 := bel6.size
  have HD6 := Lib.hid hD
  obtain ⟨x0, n, l, hh, hzl⟩ := crash_holds la lb z ha40 hb40 (by rcases HCASE.out with ⟨_, h⟩ | ⟨_, h⟩; exact .inr h; exact h)
  have HH := Lib.hid hh
  have HZL := Lib.hid hzl
  clear hD bel6 hh hzl
  go_wp2_with (fail)
  refine (open_any w6 p4 b4 _ [img 1 la, z] HD6.out (map_now _ 0) 0 x0 n l HH.out).mono ?_
  rintro e w7 ⟨⟨s7, rfl, hs7, hS7⟩, bel7⟩
  have HS7 := Lib.hid hS7
  have HD7 := Lib.hid (HD6.out.below bel7 HD6.out.lt.1 HD6.out.lt.2)
  have C7 := Lib.hid (C6.out.trans (bel7.mono (by omega)))
  have hz7 := bel7.size
  clear hS7 bel7
  have TX := Lib.hid (fun W (b : Below w7.heap.size w7 W) => text_k W s7 p4 _ _ _ l (HS7.out.below b) (by have := HH.out.2.2.1; omega))
  have NX := Lib.hid (fun W (b : Below w7.heap.size w7 W) => turn_k W s7 p4 _ _ _ l (HS7.out.below b))
  have CA := Lib.hid (fun W (b : Below w7.heap.size w7 W) => Sl.str (Sv.below HVA.out (Nat.le_refl _) (C7.out.trans (b.mono (by omega))) (Nat.le_refl _)))
  have CB := Lib.hid (fun W (b : Below w7.heap.size w7 W) => Sl.str (Sv.below HVB.out (Nat.le_refl _) (C7.out.trans (b.mono (by omega))) (Nat.le_refl _)))
  have qa : (str la == str la) = true := by rw [str_beq]; simp
  have qb : (str lb == str lb) = true := by rw [str_beq]; simp
  obtain ⟨SA, hSA⟩ : ∃ S, S = str la := ⟨_, rfl⟩
  obtain ⟨SB, hSB⟩ : ∃ S, S = str lb := ⟨_, rfl⟩
  rw [← hSA] at CA qa
  rw [← hSB] at CB qb
  have HSA := Lib.hid hSA
  have HSB := Lib.hid hSB
  clear hSA hSB hS
  have hcases : (sc = 0 ∧ m = 2 ∧ z = img 2 lb ∧ n = 2 ∧ l = lb) ∨ (sc = 7 ∧ m = 1 ∧ z = img 2 lb ∧ n = 2 ∧ l = lb) ∨ (sc = 7 ∧ m = 1 ∧ z = zero64 ∧ n = 1 ∧ l = la) := by
    have hne : img 2 lb ≠ zero64 := by
      intro h
      have h1 := img_turn 2 lb
      rw [h] at h1
      have h2 := num_be 8 2
      rw [← h1] at h2
      revert h2
      decide
    rcases HCASE.out with ⟨h1, h2⟩ | ⟨h1, h2⟩
    · rcases HM5.out with ⟨_, h4⟩ | ⟨h3, _⟩
      · rcases HZL.out with ⟨h5, _⟩ | ⟨h5, h6, h7⟩
        · exact absurd (h2.symm.trans h5) hne
        · exact .inl ⟨h1, h4, h5, h6, h7⟩
      · exact absurd h1 h3
    · rcases HM5.out with ⟨h3, _⟩ | ⟨_, h4⟩
      · omega
      · rcases HZL.out with ⟨h5, h6, h7⟩ | ⟨h5, h6, h7⟩
        · exact .inr (.inr ⟨h1, h4, h5, h6, h7⟩)
        · exact .inr (.inl ⟨h1, h4, h5, h6, h7⟩)
  clear HCASE HM5 HZL HZ HCR HS5 HS4 HS3 HD3 HD6 C2 C3 C4 C5 C6 hsc hla hlb hlc
  have HFULL : Hid (Full [img 1 la, z]) := by
    show ∀ x ∈ [img 1 la, z], _
    intro x hx
    simp only [List.mem_cons, List.not_mem_nil, or_false] at hx
    rcases hx with rfl | rfl
    · exact img_len 1 la (by omega)
    · rcases hcases with ⟨_, _, h, _⟩ | ⟨_, _, h, _⟩ | ⟨_, _, h, _⟩ <;> rw [h]
      · exact img_len 2 lb (by omega)
      · exact img_len 2 lb (by omega)
      · rfl
  rcases hcases with ⟨rfl, rfl, rfl, rfl, rfl⟩ | ⟨rfl, rfl, rfl, rfl, rfl⟩ | ⟨rfl, rfl, rfl, rfl, rfl⟩
  · rw [show (((2 : Nat)) : Int) = 2 from rfl] at NX
    go_upto_region 18 with (fail)
    go_cut [19] (fun sx wx => sx = .bool false ∧ Below w7.heap.size w7 wx)
    case first =>
      have BX : Below w7.heap.size w7 w7.drew := (Below.refl _ _).drew
      have ca0 := CB.out _ BX
      have BX := Lib.hid BX
      first | go_region_with (first
        | (go_at_call 34; refine (TX.out _ BX.out).mono ?_; rintro e wn ⟨⟨vt, rfl, ownt⟩, belt⟩; have cs1 := Sl.str (Sl.of_own ownt); rw [← HSB.out] at cs1; have BX := Lib.hid (BX.out.trans (belt.mono BX.out.size)); have ca1 := CB.out _ BX.out; clear ownt belt)
        | (go_at_call 35; refine (NX.out _ BX.out).mono ?_; rintro e w' ⟨rfl, rfl⟩)) | fail
      all_goals
        go_wp2_with (fail)
        go_meet
        exact ⟨rfl, BX.out⟩
    case rest =>
    obtain ⟨rfl, bw8⟩ := hcut
    obtain ⟨w8, rfl⟩ : ∃ w8 : World, w8 = wc := ⟨_, rfl⟩
    have BW8 := Lib.hid bw8
    clear bw8
    go_upto_region 19 with (fail)
    go_cut [20] (fun sx wx => sx = .bool true ∧ Below w7.heap.size w7 wx)
    case first =>
      have BX : Below w7.heap.size w7 w8.drew := BW8.out.drew
      have ca0 := CB.out _ BX
      have BX := Lib.hid BX
      first | go_region_with (first
        | (go_at_call 34; refine (TX.out _ BX.out).mono ?_; rintro e wn ⟨⟨vt, rfl, ownt⟩, belt⟩; have cs1 := Sl.str (Sl.of_own ownt); rw [← HSB.out] at cs1; have BX := Lib.hid (BX.out.trans (belt.mono BX.out.size)); have ca1 := CB.out _ BX.out; clear ownt belt)
        | (go_at_call 35; refine (NX.out _ BX.out).mono ?_; rintro e w' ⟨rfl, rfl⟩)) | fail
      all_goals
        go_wp2_with (fail)
        go_meet
        exact ⟨rfl, BX.out⟩
    case rest =>
    obtain ⟨rfl, bw9⟩ := hcut
    obtain ⟨w9, rfl⟩ : ∃ w9 : World, w9 = wc := ⟨_, rfl⟩
    have BW9 := Lib.hid bw9
    have hz9 := bw9.size
    clear bw9
    go_wp2_with (fail)
    refine (NX.out _ BW9.out).mono ?_
    rintro e w' ⟨rfl, rfl⟩
    have HSV := Lib.hid (save_k w9 s7 p4 b4 _ HFULL.out 0 0 x0 2 _ (HS7.out.below BW9.out) (HD7.out.below BW9.out HD7.out.lt.1 HD7.out.lt.2) (by decide) (by show 0 + 1 < 2; decide) HH.out.slot.1 HH.out.slot.2 (by decide) _ lc (Sl.keeps (B := w.heap.size) (Sv.below HVC.out (Nat.le_refl _) (C7.out.trans (BW9.out.mono (by omega))) (Nat.le_refl _)) (by omega) (by simp; omega)) hc40)
    have HH2 := Lib.hid (HH.out.save lc hc40 (by decide))
    go_wp2_with (fail)
    refine HSV.out.mono ?_
    rintro e w10 ⟨rfl, hD, hS, f10⟩
    have C10 := Lib.hid ((C7.out.trans (BW9.out.mono (by omega))).trans (f10.below (B := w.heap.size) (by omega) (by simp; omega)))
    have hz10 := f10.size
    have HD10 := Lib.hid hD
    clear hD hS f10 HSV
    go_upto_region 25 with (fail)
    go_cut [22, 23] (fun s22 s23 wx => ∃ s9 p9, s22 = .pointer (some ⟨s9, 0, none⟩) ∧ s23 = .int .i64 0 ∧ SupX wx s9 p9 0 (1 - x0) ((2 + 1 : Nat) : Int) lc ∧ Below w.heap.size w1 wx ∧ w10.heap.size ≤ wx.heap.size)
    case first =>
      go_wp2_with (fail)
      refine (crash_k0 w10 p4 b4 _ _ HD10.out).mono ?_
      rintro e w11 ⟨⟨p9, b9, rfl, hp9, hb9, hD⟩, bel11⟩
      have HD11 := Lib.hid hD
      have C11 := Lib.hid (C10.out.trans (bel11.mono (by omega)))
      have hz11 := bel11.size
      clear hD bel11
      go_wp2_with (fail)
      refine (open_any w11 p9 b9 _ _ HD11.out (map_now _ 0) 0 (1 - x0) (2 + 1) lc HH2.out).mono ?_
      rintro e w12 ⟨⟨s9, rfl, hs9, hS⟩, bel12⟩
      have C12 := Lib.hid (C11.out.trans (bel12.mono (by omega)))
      have hz12 := bel12.size
      have HS12 := Lib.hid hS
      clear hS bel12
      go_wp2_with (fail)
      go_meet
      exact ⟨s9, p9, rfl, rfl, HS12.out, C12.out, by omega⟩
    case rest =>
    obtain ⟨s9, p9, rfl, rfl, hS, hb12, hzz⟩ := hcut
    obtain ⟨w12, rfl⟩ : ∃ w12 : World, w12 = wc := ⟨_, rfl⟩
    have C12 := Lib.hid hb12
    have HS12 := Lib.hid hS
    clear hS hb12
    have TX0 := TX
    have NX0 := NX
    clear TX NX
    have TX := Lib.hid (fun W (b : Below w12.heap.size w12 W) => text_k W s9 p9 _ _ _ lc (HS12.out.below b) (by omega))
    have NX := Lib.hid (fun W (b : Below w12.heap.size w12 W) => turn_k W s9 p9 _ _ _ lc (HS12.out.below b))
    rw [show (((2 + 1 : Nat)) : Int) = 3 from rfl] at NX
    have hw3 : IntKind.wrap .i64 3 = 3 := by decide
    have hw4 : IntKind.wrap .i64 (2 + 1) = 3 := by decide
    have CC := Lib.hid (fun W (b : Below w12.heap.size w12 W) => Sl.str (Sv.below HVC.out (Nat.le_refl _) (C12.out.trans (b.mono (by omega))) (Nat.le_refl _)))
    have qc : (str lc == str lc) = true := by rw [str_beq]; simp
    obtain ⟨SC, hSC⟩ : ∃ S, S = str lc := ⟨_, rfl⟩
    rw [← hSC] at CC qc
    have HSC := Lib.hid hSC
    have BX : Below w12.heap.size w12 w12.drew := (Below.refl _ _).drew
    have ca0 := CC.out _ BX
    have BX := Lib.hid BX
    have HZ : Hid (∀ W, Below w12.heap.size w12 W → Below w.heap.size w W) := fun W b => B1.out.trans (C12.out.trans (b.mono (by omega)))
    clear hSC qa qb TX0 NX0 CA CB HSA HSB HS7 HD7 HFULL HH HH2 HD10 C10 BW8 BW9 C7 HVA HVB HVC HK B1
    go_upto_region 26 with (fail)
    first | go_region_with (first
        | (go_at_call 34; refine (TX.out _ BX.out).mono ?_; rintro e wn ⟨⟨vt, rfl, ownt⟩, belt⟩; have cs1 := Sl.str (Sl.of_own ownt); rw [← HSC.out] at cs1; have BX := Lib.hid (BX.out.trans (belt.mono BX.out.size)); have ca1 := CC.out _ BX.out; clear ownt belt)
        | (go_at_call 35; refine (NX.out _ BX.out).mono ?_; rintro e w' ⟨rfl, rfl⟩)) | fail
    all_goals
      go_wp2_with (fail)
      go_ret
      exact ⟨rfl, HZ.out _ BX.out⟩
  · rw [show (((2 : Nat)) : Int) = 2 from rfl] at NX
    go_upto_region 18 with (fail)
    go_cut [19] (fun sx wx => sx = .bool false ∧ Below w7.heap.size w7 wx)
    case first =>
      have BX : Below w7.heap.size w7 w7.drew := (Below.refl _ _).drew
      have ca0 := CB.out _ BX
      have BX := Lib.hid BX
      first | go_region_with (first
        | (go_at_call 34; refine (TX.out _ BX.out).mono ?_; rintro e wn ⟨⟨vt, rfl, ownt⟩, belt⟩; have cs1 := Sl.str (Sl.of_own ownt); rw [← HSB.out] at cs1; have BX := Lib.hid (BX.out.trans (belt.mono BX.out.size)); have ca1 := CB.out _ BX.out; clear ownt belt)
        | (go_at_call 35; refine (NX.out _ BX.out).mono ?_; rintro e w' ⟨rfl, rfl⟩)) | fail
      all_goals
        go_wp2_with (fail)
        go_meet
        exact ⟨rfl, BX.out⟩
    case rest =>
    obtain ⟨rfl, bw8⟩ := hcut
    obtain ⟨w8, rfl⟩ : ∃ w8 : World, w8 = wc := ⟨_, rfl⟩
    have BW8 := Lib.hid bw8
    clear bw8
    go_upto_region 19 with (fail)
    go_cut [20] (fun sx wx => sx = .bool true ∧ Below w7.heap.size w7 wx)
    case first =>
      have BX : Below w7.heap.size w7 w8.drew := BW8.out.drew
      have ca0 := CB.out _ BX
      have BX := Lib.hid BX
      first | go_region_with (first
        | (go_at_call 34; refine (TX.out _ BX.out).mono ?_; rintro e wn ⟨⟨vt, rfl, ownt⟩, belt⟩; have cs1 := Sl.str (Sl.of_own ownt); rw [← HSB.out] at cs1; have BX := Lib.hid (BX.out.trans (belt.mono BX.out.size)); have ca1 := CB.out _ BX.out; clear ownt belt)
        | (go_at_call 35; refine (NX.out _ BX.out).mono ?_; rintro e w' ⟨rfl, rfl⟩)) | fail
      all_goals
        go_wp2_with (fail)
        go_meet
        exact ⟨rfl, BX.out⟩
    case rest =>
    obtain ⟨rfl, bw9⟩ := hcut
    obtain ⟨w9, rfl⟩ : ∃ w9 : World, w9 = wc := ⟨_, rfl⟩
    have BW9 := Lib.hid bw9
    have hz9 := bw9.size
    clear bw9
    go_wp2_with (fail)
    refine (NX.out _ BW9.out).mono ?_
    rintro e w' ⟨rfl, rfl⟩
    have HSV := Lib.hid (save_k w9 s7 p4 b4 _ HFULL.out 0 0 x0 2 _ (HS7.out.below BW9.out) (HD7.out.below BW9.out HD7.out.lt.1 HD7.out.lt.2) (by decide) (by show 0 + 1 < 2; decide) HH.out.slot.1 HH.out.slot.2 (by decide) _ lc (Sl.keeps (B := w.heap.size) (Sv.below HVC.out (Nat.le_refl _) (C7.out.trans (BW9.out.mono (by omega))) (Nat.le_refl _)) (by omega) (by simp; omega)) hc40)
    have HH2 := Lib.hid (HH.out.save lc hc40 (by decide))
    go_wp2_with (fail)
    refine HSV.out.mono ?_
    rintro e w10 ⟨rfl, hD, hS, f10⟩
    have C10 := Lib.hid ((C7.out.trans (BW9.out.mono (by omega))).trans (f10.below (B := w.heap.size) (by omega) (by simp; omega)))
    have hz10 := f10.size
    have HD10 := Lib.hid hD
    clear hD hS f10 HSV
    go_upto_region 25 with (fail)
    go_cut [22, 23] (fun s22 s23 wx => ∃ s9 p9, s22 = .pointer (some ⟨s9, 0, none⟩) ∧ s23 = .int .i64 0 ∧ SupX wx s9 p9 0 (1 - x0) ((2 + 1 : Nat) : Int) lc ∧ Below w.heap.size w1 wx ∧ w10.heap.size ≤ wx.heap.size)
    case first =>
      go_wp2_with (fail)
      refine (crash_k0 w10 p4 b4 _ _ HD10.out).mono ?_
      rintro e w11 ⟨⟨p9, b9, rfl, hp9, hb9, hD⟩, bel11⟩
      have HD11 := Lib.hid hD
      have C11 := Lib.hid (C10.out.trans (bel11.mono (by omega)))
      have hz11 := bel11.size
      clear hD bel11
      go_wp2_with (fail)
      refine (open_any w11 p9 b9 _ _ HD11.out (map_now _ 0) 0 (1 - x0) (2 + 1) lc HH2.out).mono ?_
      rintro e w12 ⟨⟨s9, rfl, hs9, hS⟩, bel12⟩
      have C12 := Lib.hid (C11.out.trans (bel12.mono (by omega)))
      have hz12 := bel12.size
      have HS12 := Lib.hid hS
      clear hS bel12
      go_wp2_with (fail)
      go_meet
      exact ⟨s9, p9, rfl, rfl, HS12.out, C12.out, by omega⟩
    case rest =>
    obtain ⟨s9, p9, rfl, rfl, hS, hb12, hzz⟩ := hcut
    obtain ⟨w12, rfl⟩ : ∃ w12 : World, w12 = wc := ⟨_, rfl⟩
    have C12 := Lib.hid hb12
    have HS12 := Lib.hid hS
    clear hS hb12
    have TX0 := TX
    have NX0 := NX
    clear TX NX
    have TX := Lib.hid (fun W (b : Below w12.heap.size w12 W) => text_k W s9 p9 _ _ _ lc (HS12.out.below b) (by omega))
    have NX := Lib.hid (fun W (b : Below w12.heap.size w12 W) => turn_k W s9 p9 _ _ _ lc (HS12.out.below b))
    rw [show (((2 + 1 : Nat)) : Int) = 3 from rfl] at NX
    have hw3 : IntKind.wrap .i64 3 = 3 := by decide
    have hw4 : IntKind.wrap .i64 (2 + 1) = 3 := by decide
    have CC := Lib.hid (fun W (b : Below w12.heap.size w12 W) => Sl.str (Sv.below HVC.out (Nat.le_refl _) (C12.out.trans (b.mono (by omega))) (Nat.le_refl _)))
    have qc : (str lc == str lc) = true := by rw [str_beq]; simp
    obtain ⟨SC, hSC⟩ : ∃ S, S = str lc := ⟨_, rfl⟩
    rw [← hSC] at CC qc
    have HSC := Lib.hid hSC
    have BX : Below w12.heap.size w12 w12.drew := (Below.refl _ _).drew
    have ca0 := CC.out _ BX
    have BX := Lib.hid BX
    have HZ : Hid (∀ W, Below w12.heap.size w12 W → Below w.heap.size w W) := fun W b => B1.out.trans (C12.out.trans (b.mono (by omega)))
    clear hSC qa qb TX0 NX0 CA CB HSA HSB HS7 HD7 HFULL HH HH2 HD10 C10 BW8 BW9 C7 HVA HVB HVC HK B1
    go_upto_region 26 with (fail)
    first | go_region_with (first
        | (go_at_call 34; refine (TX.out _ BX.out).mono ?_; rintro e wn ⟨⟨vt, rfl, ownt⟩, belt⟩; have cs1 := Sl.str (Sl.of_own ownt); rw [← HSC.out] at cs1; have BX := Lib.hid (BX.out.trans (belt.mono BX.out.size)); have ca1 := CC.out _ BX.out; clear ownt belt)
        | (go_at_call 35; refine (NX.out _ BX.out).mono ?_; rintro e w' ⟨rfl, rfl⟩)) | fail
    all_goals
      go_wp2_with (fail)
      go_ret
      exact ⟨rfl, HZ.out _ BX.out⟩
  · rw [show (((1 : Nat)) : Int) = 1 from rfl] at NX
    go_upto_region 18 with (fail)
    go_cut [19] (fun sx wx => sx = .bool true ∧ Below w7.heap.size w7 wx)
    case first =>
      have BX : Below w7.heap.size w7 w7.drew := (Below.refl _ _).drew
      have ca0 := CA.out _ BX
      have BX := Lib.hid BX
      first | go_region_with (first
        | (go_at_call 34; refine (TX.out _ BX.out).mono ?_; rintro e wn ⟨⟨vt, rfl, ownt⟩, belt⟩; have cs1 := Sl.str (Sl.of_own ownt); rw [← HSA.out] at cs1; have BX := Lib.hid (BX.out.trans (belt.mono BX.out.size)); have ca1 := CA.out _ BX.out; clear ownt belt)
        | (go_at_call 35; refine (NX.out _ BX.out).mono ?_; rintro e w' ⟨rfl, rfl⟩)) | fail
      all_goals
        go_wp2_with (fail)
        go_meet
        exact ⟨rfl, BX.out⟩
    case rest =>
    obtain ⟨rfl, bw8⟩ := hcut
    obtain ⟨w8, rfl⟩ : ∃ w8 : World, w8 = wc := ⟨_, rfl⟩
    have BW8 := Lib.hid bw8
    clear bw8
    go_upto_region 19 with (fail)
    go_cut [20] (fun sx wx => sx = .bool false ∧ Below w7.heap.size w7 wx)
    case first =>
      have BX : Below w7.heap.size w7 w8.drew := BW8.out.drew
      have ca0 := CA.out _ BX
      have BX := Lib.hid BX
      first | go_region_with (first
        | (go_at_call 34; refine (TX.out _ BX.out).mono ?_; rintro e wn ⟨⟨vt, rfl, ownt⟩, belt⟩; have cs1 := Sl.str (Sl.of_own ownt); rw [← HSA.out] at cs1; have BX := Lib.hid (BX.out.trans (belt.mono BX.out.size)); have ca1 := CA.out _ BX.out; clear ownt belt)
        | (go_at_call 35; refine (NX.out _ BX.out).mono ?_; rintro e w' ⟨rfl, rfl⟩)) | fail
      all_goals
        go_wp2_with (fail)
        go_meet
        exact ⟨rfl, BX.out⟩
    case rest =>
    obtain ⟨rfl, bw9⟩ := hcut
    obtain ⟨w9, rfl⟩ : ∃ w9 : World, w9 = wc := ⟨_, rfl⟩
    have BW9 := Lib.hid bw9
    have hz9 := bw9.size
    clear bw9
    go_wp2_with (fail)
    refine (NX.out _ BW9.out).mono ?_
    rintro e w' ⟨rfl, rfl⟩
    have HSV := Lib.hid (save_k w9 s7 p4 b4 _ HFULL.out 0 0 x0 1 _ (HS7.out.below BW9.out) (HD7.out.below BW9.out HD7.out.lt.1 HD7.out.lt.2) (by decide) (by show 0 + 1 < 2; decide) HH.out.slot.1 HH.out.slot.2 (by decide) _ lc (Sl.keeps (B := w.heap.size) (Sv.below HVC.out (Nat.le_refl _) (C7.out.trans (BW9.out.mono (by omega))) (Nat.le_refl _)) (by omega) (by simp; omega)) hc40)
    have HH2 := Lib.hid (HH.out.save lc hc40 (by decide))
    go_wp2_with (fail)
    refine HSV.out.mono ?_
    rintro e w10 ⟨rfl, hD, hS, f10⟩
    have C10 := Lib.hid ((C7.out.trans (BW9.out.mono (by omega))).trans (f10.below (B := w.heap.size) (by omega) (by simp; omega)))
    have hz10 := f10.size
    have HD10 := Lib.hid hD
    clear hD hS f10 HSV
    go_upto_region 25 with (fail)
    go_cut [22, 23] (fun s22 s23 wx => ∃ s9 p9, s22 = .pointer (some ⟨s9, 0, none⟩) ∧ s23 = .int .i64 0 ∧ SupX wx s9 p9 0 (1 - x0) ((1 + 1 : Nat) : Int) lc ∧ Below w.heap.size w1 wx ∧ w10.heap.size ≤ wx.heap.size)
    case first =>
      go_wp2_with (fail)
      refine (crash_k0 w10 p4 b4 _ _ HD10.out).mono ?_
      rintro e w11 ⟨⟨p9, b9, rfl, hp9, hb9, hD⟩, bel11⟩
      have HD11 := Lib.hid hD
      have C11 := Lib.hid (C10.out.trans (bel11.mono (by omega)))
      have hz11 := bel11.size
      clear hD bel11
      go_wp2_with (fail)
      refine (open_any w11 p9 b9 _ _ HD11.out (map_now _ 0) 0 (1 - x0) (1 + 1) lc HH2.out).mono ?_
      rintro e w12 ⟨⟨s9, rfl, hs9, hS⟩, bel12⟩
      have C12 := Lib.hid (C11.out.trans (bel12.mono (by omega)))
      have hz12 := bel12.size
      have HS12 := Lib.hid hS
      clear hS bel12
      go_wp2_with (fail)
      go_meet
      exact ⟨s9, p9, rfl, rfl, HS12.out, C12.out, by omega⟩
    case rest =>
    obtain ⟨s9, p9, rfl, rfl, hS, hb12, hzz⟩ := hcut
    obtain ⟨w12, rfl⟩ : ∃ w12 : World, w12 = wc := ⟨_, rfl⟩
    have C12 := Lib.hid hb12
    have HS12 := Lib.hid hS
    clear hS hb12
    have TX0 := TX
    have NX0 := NX
    clear TX NX
    have TX := Lib.hid (fun W (b : Below w12.heap.size w12 W) => text_k W s9 p9 _ _ _ lc (HS12.out.below b) (by omega))
    have NX := Lib.hid (fun W (b : Below w12.heap.size w12 W) => turn_k W s9 p9 _ _ _ lc (HS12.out.below b))
    rw [show (((1 + 1 : Nat)) : Int) = 2 from rfl] at NX
    have hw3 : IntKind.wrap .i64 2 = 2 := by decide
    have hw4 : IntKind.wrap .i64 (1 + 1) = 2 := by decide
    have CC := Lib.hid (fun W (b : Below w12.heap.size w12 W) => Sl.str (Sv.below HVC.out (Nat.le_refl _) (C12.out.trans (b.mono (by omega))) (Nat.le_refl _)))
    have qc : (str lc == str lc) = true := by rw [str_beq]; simp
    obtain ⟨SC, hSC⟩ : ∃ S, S = str lc := ⟨_, rfl⟩
    rw [← hSC] at CC qc
    have HSC := Lib.hid hSC
    have BX : Below w12.heap.size w12 w12.drew := (Below.refl _ _).drew
    have ca0 := CC.out _ BX
    have BX := Lib.hid BX
    have HZ : Hid (∀ W, Below w12.heap.size w12 W → Below w.heap.size w W) := fun W b => B1.out.trans (C12.out.trans (b.mono (by omega)))
    clear hSC qa qb TX0 NX0 CA CB HSA HSB HS7 HD7 HFULL HH HH2 HD10 C10 BW8 BW9 C7 HVA HVB HVC HK B1
    go_upto_region 26 with (fail)
    first | go_region_with (first
        | (go_at_call 34; refine (TX.out _ BX.out).mono ?_; rintro e wn ⟨⟨vt, rfl, ownt⟩, belt⟩; have cs1 := Sl.str (Sl.of_own ownt); rw [← HSC.out] at cs1; have BX := Lib.hid (BX.out.trans (belt.mono BX.out.size)); have ca1 := CC.out _ BX.out; clear ownt belt)
        | (go_at_call 35; refine (NX.out _ BX.out).mono ?_; rintro e w' ⟨rfl, rfl⟩)) | fail
    all_goals
      go_wp2_with (fail)
      go_ret
      exact ⟨rfl, HZ.out _ BX.out⟩
end Go.Proofs.Ytchibinlcedjaaa
