import Derived.Test.YtchibinlcedjaaaU2
import Derived.Deep.CutBlock
namespace Go.Proofs.Ytchibinlcedjaaa
open Go.RowKit
theorem Sl.later {w w1 : World} {v : Value} {l : List UInt8} (h : Sl w w.heap.size v l) (b : Below w.heap.size w w1) {S : List Nat} (hS : ∀ k ∈ S, w.heap.size ≤ k) : ∀ w', Fr S w1 w' → Sl w' w'.heap.size v l :=
  Sl.keeps (B := w.heap.size) (Sv.below h (Nat.le_refl _) b (Nat.le_refl _)) b.size hS
set_option maxHeartbeats 16000000 in
set_option maxRecDepth 10000 in
theorem superTwo_walk (w : World) {va vb vs : Value} {la lb : List UInt8} {sl : List Bool} (ha : Sl w w.heap.size va la) (hb : Sl w w.heap.size vb lb) (hs : Sb w w.heap.size vs sl) :
    Calls Try.prog 10 #[va, vb, vs] w fun e w' => e = .returned (.bool true) ∧ Below w.heap.size w w' := by
  have HA := Lib.hid ha
  have HB := Lib.hid hb
  have HS := Lib.hid hs
  obtain ⟨aa, ca, rfl, _⟩ := Sv.form ha
  obtain ⟨ab, cb, rfl, _⟩ := Sv.form hb
  obtain ⟨as_, cs_, rfl, _⟩ := Sv.form hs
  have kc := fun (w : World) (C : Array Value) (n c : Nat) => Lib.run_convert_bytes_const (P := Try.prog) w 31 5 C n c Try.underlying31 Try.underlying5
  clear ha hb hs
  by_cases hla : 40 < la.length
  · have h1 : (40 : Int) < (la.length : Int) := by omega
    go_enter Try.func10, Try.ntmps10
    go_wp2_with (go_at_call 32; refine (begun12_c w).mono ?_; rintro e w1 ⟨rfl, bel⟩; have B1 := Lib.hid bel; clear bel)
    go_ret
    exact ⟨rfl, B1.out⟩
  by_cases hlb : 40 < lb.length
  · have h1 : (40 : Int) < (lb.length : Int) := by omega
    go_enter Try.func10, Try.ntmps10
    go_wp2_with (go_at_call 32; refine (begun12_c w).mono ?_; rintro e w1 ⟨rfl, bel⟩; have B1 := Lib.hid bel; clear bel)
    go_ret
    exact ⟨rfl, B1.out⟩
  have hla : la.length ≤ 40 := by omega
  have hlb : lb.length ≤ 40 := by omega
  go_enter Try.func10, Try.ntmps10
  go_wp2_with (fail)
  refine (begun12_c w).mono ?_
  rintro e w1 ⟨rfl, bel⟩
  have B1 := Lib.hid bel
  have hz1 := bel.size
  clear bel
  go_wp2_with (fail)
  refine (new_k w1 6).mono ?_
  rintro e w2 ⟨⟨p, b, rfl, hp, hb, hD⟩, bel2⟩
  change DevAt w2 p b (clean (List.replicate 6 zero64) 0) at hD
  have HD2 := Lib.hid hD
  have B2 := Lib.hid (B1.out.trans (bel2.mono hz1))
  have hz2 := B2.out.size
  clear hD bel2
  go_wp2_with (fail)
  refine (write_any _ p b _ (HD2.out.fr ((Fr.refl [] _).alloc _) (by simp) (by simp)) (by decide) 0 _ _ leftL (Sl.new w2 leftL (4, 5) 4 (by decide) (by simp [maxLen]))).mono ?_
  rintro e w3 ⟨rfl, hD, f⟩
  have HD3 := Lib.hid hD
  have B3 := Lib.hid ((B2.out.alloc hz2 _).trans (f.below (B := w.heap.size) (by simp; omega) (by simp; omega)))
  have hz3 := B3.out.size
  obtain ⟨q3, hq3⟩ : ∃ q3, Hid ((clean (List.replicate 6 zero64) 0).wcode 0 leftL.length = q3) := ⟨_, rfl⟩
  rw [hq3.out]
  clear hD f
  go_wp2_with (fail)
  refine (write_any _ p b _ (HD3.out.fr ((Fr.refl [] _).alloc _) (by simp) (by simp)) (by decide) 5 _ _ rightL (Sl.new w3 rightL (5, 6) 5 (by decide) (by simp [maxLen]))).mono ?_
  rintro e w4 ⟨rfl, hD, f⟩
  change DevAt w4 p b twoD at hD
  have HD4 := Lib.hid hD
  have B4 := Lib.hid ((B3.out.alloc hz3 _).trans (f.below (B := w.heap.size) (by simp; omega) (by simp; omega)))
  have hz4 := B4.out.size
  obtain ⟨q4, hq4⟩ : ∃ q4, Hid (((clean (List.replicate 6 zero64) 0).writes 0 leftL).wcode 5 rightL.length = q4) := ⟨_, rfl⟩
  rw [hq4.out]
  obtain ⟨t1, t2, t3, t4, t5⟩ := twoD_is
  have T5 := Lib.hid t5
  obtain ⟨X, hX⟩ : ∃ X, Hid (twoD.secs.map (·.now) = X) := ⟨_, rfl⟩
  obtain ⟨hXf, hYf, hZf, hYl, hZ0, hZ5, hZa, hZb⟩ := two_start X (hX.out.symm.trans twoD_now) la lb hla hlb
  have HM := Lib.hid (make_a w4 p b twoD t1 t2 t3 hD (by rw [t4]; decide) 1 (by rw [t5]; decide) _ la (Sl.later HA.out B4.out (by simp; omega)) hla)
  rw [hX.out, t4] at HM
  clear hD f t1 t2 t3 t4 t5
  go_wp2_with (fail)
  refine HM.out.mono ?_
  rintro e w5 ⟨⟨s, rfl, hs5, hS⟩, hD, f⟩
  obtain ⟨Y, hY⟩ : ∃ Y, Hid (((X.set 1 zero64).set (1 + 1) zero64).set 1 (img 1 la) = Y) := ⟨_, rfl⟩
  rw [hY.out] at hD hYf hYl hZf hZ0 hZ5 hZa hZb
  have HD5 := Lib.hid hD
  have HS5 := Lib.hid hS
  have B5 := Lib.hid (B4.out.trans (f.below (B := w.heap.size) hz4 (by simp; omega)))
  have hz5 := B5.out.size
  have hsl := hS.lt
  have HM2 := Lib.hid (make_k w5 p b Y hYf _ hD (by decide) 3 (by omega) _ lb (Sl.later HB.out B5.out (by simp; omega)) hlb)
  clear hD f hS HM
  go_wp2_with (fail)
  refine HM2.out.mono ?_
  rintro e w6 ⟨⟨t, rfl, ht6, hT⟩, hD, f⟩
  have HTW : Hid (Two w w6 p b s t la lb 0 1 1) := ⟨_, _, _, _, hD, hZf, hZ0, hZ5, hZa, hZb, HS5.out.fr_dev HD5.out f, hT, by decide, by decide, by decide, B5.out.trans (f.below (B := w.heap.size) hz5 (by simp; omega))⟩
  clear hD f hT HM2 hZa hZb hZ0 hZ5 hZf hYf hXf
  go_upto_block 0 with (fail)
  go_cut [13, 14] (fun n13 m14 wx => ∃ (k n m : Nat), n13 = .int .i64 (n : Int) ∧ m14 = .int .i64 (m : Int) ∧ Two w wx p b s t la lb k n m)
  case first =>
    go_wp2_with (fail)
    go_loopg [10, 13, 14, 15] sl.length (fun q e10 n13 m14 i wr => ∃ (k n m : Nat), k + q = sl.length ∧ i = .int .i64 (k : Int) ∧ n13 = .int .i64 (n : Int) ∧ m14 = .int .i64 (m : Int) ∧ Two w wr p b s t la lb k n m ∧ k ≤ 10)
    case atStart => exact ⟨0, 1, 1, by omega, rfl, rfl, rfl, HTW.out, by omega⟩
    case round =>
      obtain ⟨k, n, m, hk, rfl, rfl, rfl, hTW, hk10⟩ := hrel
      have HTW := Lib.hid hTW
      obtain ⟨X, c, x0, y0, hD, hXf, h0, h5, ha, hb, hs, ht, hc, hn, hm, bel⟩ := hTW
      have hzr := bel.size
      have HD := Lib.hid hD
      have BEL := Lib.hid bel
      have HSS := Lib.hid hs
      have HTT := Lib.hid ht
      have HHA := Lib.hid ha
      have HHB := Lib.hid hb
      have hsa := ha.slot
      have hsb := hb.slot
      have hXl := hb.len
      have H0 := Lib.hid h0
      have H5 := Lib.hid h5
      clear hD ha hb hs ht bel h0 h5
      by_cases hlt : k < sl.length ∧ k < 10
      · obtain ⟨hlt, h10⟩ := hlt
        obtain ⟨gb, go, rfl, hgb, hgc⟩ := HS.out.at_ (by rw [tv_len]; omega)
        have kcc := hgc k (by rw [tv_len]; exact hlt)
        rw [← BEL.out.cell (p := ⟨gb, go + k, none⟩) hgb] at kcc
        have e0 : (tv sl)[k]'(by rw [tv_len]; exact hlt) = .bool sl[k] := by simp [tv]
        rw [e0] at kcc
        clear hgc e0
        generalize sl[k] = q at *
        cases q
        · have HSV := Lib.hid (save_k wr t p b X hXf c 3 y0 m lb HTT.out HD.out (by omega) (by omega) hsb.1 hsb.2 (by omega) _ lb (Sl.later HB.out BEL.out (by simp; omega)) hlb)
          go_wp2_with (fail)
          refine HSV.out.mono ?_
          rintro e w7 ⟨rfl, h7⟩
          have HT7 := Lib.hid (two_save2 hXf HD.out H0.out H5.out HHA.out HHB.out HSS.out HTT.out hc hn hm (by omega) BEL.out (by omega) (by simp; omega) ⟨rfl, h7⟩)
          clear h7
          go_wp2_with (fail)
          go_roundg (sl.length - (k + 1))
          case measure => omega
          case rel => exact ⟨k + 1, n, m + 1, by omega, by go_num, by go_num, by go_num, HT7.out, by omega⟩
        · have HSV := Lib.hid (save_k wr s p b X hXf c 1 x0 n la HSS.out HD.out (by omega) (by omega) hsa.1 hsa.2 (by omega) _ la (Sl.later HA.out BEL.out (by simp; omega)) hla)
          go_wp2_with (fail)
          refine HSV.out.mono ?_
          rintro e w7 ⟨rfl, h7⟩
          have HT7 := Lib.hid (two_save1 hXf HD.out H0.out H5.out HHA.out HHB.out HSS.out HTT.out hc hn hm (by omega) BEL.out (by omega) (by simp; omega) ⟨rfl, h7⟩)
          clear h7
          go_wp2_with (fail)
          go_roundg (sl.length - (k + 1))
          case measure => omega
          case rel => exact ⟨k + 1, n + 1, m, by omega, by go_num, by go_num, by go_num, HT7.out, by omega⟩
      · have hex : (sl.length : Int) ≤ (k : Int) ∨ (k : Int) < (sl.length : Int) ∧ 10 ≤ (k : Int) := by omega
        clear hlt
        rcases hex with h | ⟨h, h'⟩
        all_goals
          go_wp2_with (fail)
          go_meet
          exact ⟨k, n, m, rfl, rfl, HTW.out⟩
  case rest =>
    obtain ⟨k, n, m, rfl, rfl, hTW⟩ := hcut
    obtain ⟨X, c, x0, y0, hD, hXf, h0, h5, ha, hb, hs, ht, hc, hn, hm, bel⟩ := hTW
    obtain ⟨wr, rfl⟩ : ∃ wr : World, wr = wc := ⟨_, rfl⟩
    have hzr := bel.size
    have HD := Lib.hid hD
    have BEL := Lib.hid bel
    have HHA := Lib.hid ha
    have HHB := Lib.hid hb
    have HXL := Lib.hid hb.len
    have H0 := Lib.hid h0
    have H5 := Lib.hid h5
    clear hD ha hb hs ht bel h0 h5 hc hn hm
    go_wp2_with (fail)
    refine (crash_k0 wr p b X c HD.out).mono ?_
    rintro e w7 ⟨⟨p7, b7, rfl, hp7, hb7, hD7⟩, bel7⟩
    have HD7 := Lib.hid hD7
    have B7 := Lib.hid (BEL.out.trans (bel7.mono hzr))
    have hz7 := B7.out.size
    clear hD7 bel7
    go_wp2_with (fail)
    refine (open_any w7 p7 b7 _ X HD7.out (map_now X 0) 1 x0 n la HHA.out).mono ?_
    rintro e w8 ⟨⟨s8, rfl, hs8, hS8⟩, bel8⟩
    have HS8 := Lib.hid hS8
    have HD8 := Lib.hid (HD7.out.below bel8 HD7.out.lt.1 HD7.out.lt.2)
    have B8 := Lib.hid (B7.out.trans (bel8.mono hz7))
    have hz8 := B8.out.size
    clear hS8 bel8
    go_wp2_with (fail)
    refine (open_any w8 p7 b7 _ X HD8.out (map_now X 0) 3 y0 m lb HHB.out).mono ?_
    rintro e w9 ⟨⟨t9, rfl, ht9, hT9⟩, bel9⟩
    have HT9 := Lib.hid hT9
    have HS9 := Lib.hid (HS8.out.below bel9)
    have HD9 := Lib.hid (HD8.out.below bel9 HD8.out.lt.1 HD8.out.lt.2)
    have B9 := Lib.hid (B8.out.trans (bel9.mono hz8))
    have hz9 := B9.out.size
    clear hT9 bel9
    have hl0 : 0 < (clean X 0).secs.length := by have := HXL.out; simp [clean]; omega
    have hl5 : 5 < (clean X 0).secs.length := by
      rcases Nat.lt_or_ge 5 X.length with h | h
      · simpa [clean] using h
      · have := H5.out; rw [List.getElem?_eq_none h] at this; cases this
    have g0 : ((clean X 0).secs[0]'hl0).now = leftX := by
      have := clean_now X 0 0 _ H0.out
      rw [List.getElem?_eq_getElem hl0] at this
      exact Option.some.inj this
    have g5 : ((clean X 0).secs[5]'hl5).now = rightX := by
      have := clean_now X 0 5 _ H5.out
      rw [List.getElem?_eq_getElem hl5] at this
      exact Option.some.inj this
    have HR0 := Lib.hid (read_c w9 p7 b7 _ HD9.out 0 hl0)
    rw [g0] at HR0
    clear g0
    go_wp2_with (fail)
    refine HR0.out.mono ?_
    rintro e w10 ⟨⟨gl, cl, rfl, own10⟩, bel10⟩
    have OL := Lib.hid (Sl.of_own own10)
    have HT10 := Lib.hid (HT9.out.below bel10)
    have HS10 := Lib.hid (HS9.out.below bel10)
    have HD10 := Lib.hid (HD9.out.below bel10 HD9.out.lt.1 HD9.out.lt.2)
    have B10 := Lib.hid (B9.out.trans (bel10.mono hz9))
    have hz10 := B10.out.size
    have hcl : 64 ≤ cl := by
      obtain ⟨_, ⟨h, _⟩ | ⟨g', cap, cur, h, _, _, h5, _⟩⟩ := own10
      · cases h
      · injection h with _ _ h; omega
    have HR5 := Lib.hid (read_c w10 p7 b7 _ HD10.out 5 hl5)
    rw [g5] at HR5
    clear own10 bel10 g5
    go_upto_region 30 with (fail)
    go_cut [21, 22] (fun s21 s22 wx => ∃ gr cr, s21 = .slice (some ⟨gr, 0, none⟩) 64 cr ∧ s22 = .int .i64 0 ∧ 64 ≤ cr ∧ Sl wx wx.heap.size (.slice (some ⟨gr, 0, none⟩) 64 cr) rightX ∧ Below w10.heap.size w10 wx)
    case first =>
      go_wp2_with (fail)
      refine HR5.out.mono ?_
      rintro e w11 ⟨⟨gr, cr, rfl, own11⟩, bel11⟩
      have OR := Lib.hid (Sl.of_own own11)
      have hcr : 64 ≤ cr := by
        obtain ⟨_, ⟨h, _⟩ | ⟨g', cap, cur, h, _, _, h5, _⟩⟩ := own11
        · cases h
        · injection h with _ _ h; omega
      have BB := Lib.hid bel11
      clear own11 bel11
      go_wp2_with (fail)
      go_meet
      exact ⟨gr, cr, rfl, rfl, hcr, OR.out, BB.out⟩
    case rest =>
      obtain ⟨gr, cr, rfl, rfl, hcr, hor, bel11⟩ := hcut
      obtain ⟨w11, rfl⟩ : ∃ w11 : World, w11 = wc := ⟨_, rfl⟩
      have OR := Lib.hid hor
      have HT11 := Lib.hid (HT10.out.below bel11)
      have HS11 := Lib.hid (HS10.out.below bel11)
      have B11 := Lib.hid (B10.out.trans (bel11.mono hz10))
      have hz11 := Lib.hid B11.out.size
      have OL : Hid (Sl w11 w11.heap.size (.slice (some ⟨gl, 0, none⟩) 64 cl) leftX) := Sv.below OL.out bel11.size bel11 (Nat.le_refl _)
      clear hor bel11 HR0 HR5 hl0 hl5
      have TX := Lib.hid (fun W (b : Below w11.heap.size w11 W) => text_k W s8 p7 _ _ _ la (HS11.out.below b) (by omega))
      have TY := Lib.hid (fun W (b : Below w11.heap.size w11 W) => text_k W t9 p7 _ _ _ lb (HT11.out.below b) (by omega))
      have NX := Lib.hid (fun W (b : Below w11.heap.size w11 W) => turn_k W s8 p7 _ _ _ la (HS11.out.below b))
      have NY := Lib.hid (fun W (b : Below w11.heap.size w11 W) => turn_k W t9 p7 _ _ _ lb (HT11.out.below b))
      have CA := Lib.hid (fun W (b : Below w11.heap.size w11 W) => Sl.str (Sv.below HA.out (Nat.le_refl _) (B11.out.trans (b.mono hz11.out)) (Nat.le_refl _)))
      have CB := Lib.hid (fun W (b : Below w11.heap.size w11 W) => Sl.str (Sv.below HB.out (Nat.le_refl _) (B11.out.trans (b.mono hz11.out)) (Nat.le_refl _)))
      have CL := Lib.hid (fun W (b : Below w11.heap.size w11 W) => Sl.str (Sv.below (OL.out.sub 0 4 4 rfl (by decide)) (Nat.le_refl _) b (Nat.le_refl _)))
      have CR := Lib.hid (fun W (b : Below w11.heap.size w11 W) => Sl.str (Sv.below (OR.out.sub 0 5 5 rfl (by decide)) (Nat.le_refl _) b (Nat.le_refl _)))
      rw [show (leftX.drop 0).take 4 = leftL from rfl, Nat.sub_zero] at CL
      rw [show (rightX.drop 0).take 5 = rightL from rfl, Nat.sub_zero] at CR
      have qa : (str la == str la) = true := by rw [str_beq]; simp
      have qb : (str lb == str lb) = true := by rw [str_beq]; simp
      have ql1 : (str leftL).toList = [108, 101, 102, 116] := by simp [str, leftL]
      have ql2 : (str leftL).data.toList = [108, 101, 102, 116] := rfl
      have qr1 : (str rightL).toList = [114, 105, 103, 104, 116] := by simp [str, rightL]
      have qr2 : (str rightL).data.toList = [114, 105, 103, 104, 116] := rfl
      generalize str leftL = SL at *
      generalize str rightL = SR at *
      obtain ⟨SA, hSA⟩ : ∃ S, S = str la := ⟨_, rfl⟩
      obtain ⟨SB, hSB⟩ : ∃ S, S = str lb := ⟨_, rfl⟩
      rw [← hSA] at CA qa
      rw [← hSB] at CB qb
      have HSA := Lib.hid hSA
      have HSB := Lib.hid hSB
      clear hSA hSB
      have BX : Below w11.heap.size w11 w11.drew := (Below.refl _ _).drew
      have ca0 := CA.out _ BX
      have cb0 := CB.out _ BX
      have cl0 := CL.out _ BX
      have cr0 := CR.out _ BX
      have BX := Lib.hid BX
      have HZ : Hid (∀ W, Below w11.heap.size w11 W → Below w.heap.size w W) := fun W b => B11.out.trans (b.mono hz11.out)
      clear HS8 HS9 HS10 HS11 HT9 HT10 HT11 HD7 HD8 HD9 HD10 B7 B8 B9 B10 B11 hz7 hz8 hz9 hz10 hz11 OL OR HXL H0 H5 HHA HHB BEL HD hzr hXf T5 hX hYl hY HD5 HS5 B5 hz5 hsl ht6 hs5 HD4 B4 hz4 hq4 hq3 HD3 B3 hz3 HD2 B2 hz2 hp hb B1 hz1 hs8 ht9 hp7 hb7 hla hlb HA HB HS kc
      go_upto_region 31 with (fail)
      go_region_with (first
        | (go_at_call_of 34 (Value.pointer (some ⟨s8, 0, none⟩)); refine (TX.out _ BX.out).mono ?_; rintro e wn ⟨⟨vt, rfl, ownt⟩, belt⟩; have cs1 := Sl.str (Sl.of_own ownt); rw [← HSA.out] at cs1; have BX := Lib.hid (BX.out.trans (belt.mono BX.out.size)); have ca1 := CA.out _ BX.out; have cb1 := CB.out _ BX.out; have cl1 := CL.out _ BX.out; have cr1 := CR.out _ BX.out; clear ownt belt)
        | (go_at_call_of 34 (Value.pointer (some ⟨t9, 0, none⟩)); refine (TY.out _ BX.out).mono ?_; rintro e wn ⟨⟨vt, rfl, ownt⟩, belt⟩; have cs1 := Sl.str (Sl.of_own ownt); rw [← HSB.out] at cs1; have BX := Lib.hid (BX.out.trans (belt.mono BX.out.size)); have ca1 := CA.out _ BX.out; have cb1 := CB.out _ BX.out; have cl1 := CL.out _ BX.out; have cr1 := CR.out _ BX.out; clear ownt belt)
        | (go_at_call_of 35 (Value.pointer (some ⟨s8, 0, none⟩)); refine (NX.out _ BX.out).mono ?_; rintro e w' ⟨rfl, rfl⟩)
        | (go_at_call_of 35 (Value.pointer (some ⟨t9, 0, none⟩)); refine (NY.out _ BX.out).mono ?_; rintro e w' ⟨rfl, rfl⟩))
      all_goals
        go_wp2_with (fail)
        go_ret
        exact ⟨rfl, HZ.out _ BX.out⟩
end Go.Proofs.Ytchibinlcedjaaa
