import Derived.Test.YtchibinlcedjaaaS7
namespace Go.Proofs.Ytchibinlcedjaaa
open Go.RowKit
set_option maxHeartbeats 1000000 in
theorem swrite_c (w : World) (s p b : Nat) (D : DM) (at_ x0 n0 : Int) (l0 : List UInt8) (hs : SupX w s p at_ x0 n0 l0) (hD : DevAt w p b D) (hcl : D.calls ≤ 100000) (h0 : 0 ≤ at_) (h1 : at_ ≤ 4096)
    (x : Int) (hx0 : 0 ≤ x) (hx1 : x ≤ 1) (n : Nat) (hn : n ≤ 1000000) (v : Value) (l : List UInt8) (hv : ∀ w', Fr [s, p, b] w w' → Sl w' w'.heap.size v l) (hl : l.length ≤ 40) :
    Calls Try.prog 41 #[.pointer (some ⟨s, 0, none⟩), .int .i64 x, .int .i64 (n : Int), v] w (Wrote w s p b at_ D x0 n0 l0 x n l) := by
  obtain ⟨av, cv, rfl, _⟩ := Sv.form (hv w (Fr.refl _ _))
  obtain ⟨Z, hZ⟩ : ∃ Z : List UInt8, Hid (Z = List.replicate 64 0) := ⟨_, rfl⟩
  have hmk := run_make_bytes 64 (by decide) (by decide)
  rw [show (64 : Int).toNat = 64 from rfl, ← hZ.out] at hmk
  obtain ⟨tv, hs⟩ := hs
  have HS := Lib.hid hs
  have HD := Lib.hid hD
  have HV := Lib.hid hv
  have hsl := hs.head.lt
  have hpl := hD.lt
  clear hs hD hv
  go_enter Try.func41, Try.ntmps41
  go_upto_region 2 with (fail)
  have HB1 := Lib.hid (Bl.new w 5 (bv Z))
  have F1 := Lib.hid ((Fr.refl [] w).alloc (.cells (bv Z).toArray 5))
  clear hmk
  generalize w.alloc (.cells (bv Z).toArray 5) = w1 at *
  go_wp2_with (fail)
  have hZl : Z.length = 64 := by rw [hZ.out, List.length_replicate]
  refine (put_c w1 w.heap.size 4 8 _ n Z HB1.out (by decide) (by omega)).mono ?_
  rintro e w2 ⟨rfl, hb2, f2⟩
  rw [hZ.out, img1_put] at hb2
  have c12 : ∃ y, w2.cell? ⟨w.heap.size, 12, none⟩ = some y := ⟨_, by rw [hb2.cell, List.getElem?_eq_getElem (by rw [bv_len, img1_len]; decide)]⟩
  obtain ⟨y, c12⟩ := c12
  have q12 := hb2.free 12
  have hset := hb2.set 12 (.int .u8 (l.length : Int))
  have e2 : (bv (img1 n)).set 12 (.int .u8 (l.length : Int)) = bv (img2 n (UInt8.ofNat l.length)) := by
    rw [← img2_set]
    simp only [bv, List.map_set]
    congr 2
    rw [UInt8.toNat_ofNat']
    omega
  rw [e2] at hset
  have HB2 := Lib.hid hset
  have F2 := Lib.hid ((F1.out.mono (T := [w.heap.size]) (by simp)).trans f2 |>.setCell (p := ⟨w.heap.size, 12, none⟩) (by simp) (.int .u8 (l.length : Int)))
  clear hb2 f2 hset e2
  go_upto_region 4 with (fail)
  clear c12 q12
  generalize w2.setCell ⟨w.heap.size, 12, none⟩ (.int .u8 (l.length : Int)) = w3 at *
  have hv3 : Sl w3 w3.heap.size (.slice av l.length cv) l := HV.out w3 ((Fr.of_below (F2.out.below (Nat.le_refl _) (by simp))).mono (by simp))
  go_upto_region 5 with (refine wpList_copy_seg (.tmp 24) (.tmp 25) 31 31 rfl rfl 5 Try.underlying31 size5 w.heap.size 13 51 51 5 _ rfl HB2.out _ _ l.length (bv l) rfl hv3 (bv_one _) (by rw [bv_len, img2_len]; decide) ?_; intro w4 hb4 f4; rw [img3_splice n l (by omega)] at hb4; have HB4 := Lib.hid hb4; have F4 := Lib.hid (F2.out.trans f4); clear hb4 f4)
  have hs5 : Sl w4.drew w4.heap.size (.slice (some ⟨w.heap.size, 4, none⟩) 60 60) (body n l) := by
    have := Bl.sv (B := w4.heap.size) HB4.out.drew 1 4 60 60 HB4.out.lt (by rw [bv_len, img3_len n l (by omega)]; decide) (Nat.le_refl _) (by simp [maxLen])
    rw [show (bv (img3 n l)).drop 4 = bv (body n l) by rw [bv, ← List.map_drop, img3_drop]; rfl, List.take_of_length_le (by rw [bv_len, body_len n l (by omega)]; decide)] at this
    unfold Sl
    rw [body_len n l (by omega)]
    exact this
  have HSUM := Lib.hid (sum_c _ _ _ _ hs5)
  have hck : (crc 0#32 (body n l)).toNat < 4294967296 := (crc 0#32 (body n l)).isLt
  obtain ⟨k, hk⟩ : ∃ k, Hid ((crc 0#32 (body n l)).toNat = k) := ⟨_, rfl⟩
  unfold u32 at HSUM
  rw [hk.out] at HSUM hck
  have hkw : IntKind.wrap .u64 (k : Int) = (k : Int) := by
    simp [IntKind.wrap, IntKind.bits, IntKind.signed]
    omega
  have HPUT := Lib.hid (put_c w4.drew w.heap.size 0 4 64 k (img3 n l) HB4.out.drew (by decide) (by rw [img3_len n l (by omega)]; decide))
  clear hs5 hv3
  go_simp
  go_cut [] (fun wx => Bl wx w.heap.size 5 (bv (img n l)) ∧ Fr [w.heap.size] w wx)
  case first =>
    go_region_with (first | (go_at_call 43; refine HSUM.out.mono ?_; rintro e w' ⟨rfl, rfl⟩) | (go_at_call 44; refine HPUT.out.mono ?_; rintro e w5 ⟨rfl, hb5, f5⟩; have HB5 := Lib.hid hb5; have F5 := Lib.hid f5; clear hb5 f5))
    all_goals
      go_wp2_with (fail)
      go_meet
      refine ⟨?_, (F4.out.drew).trans F5.out⟩
      have := HB5.out
      rw [img_put, ← hk.out] at this
      exact this
  case rest =>
    obtain ⟨hb5, f5⟩ := hcut
    have hF5 : Fr [s, p, b] w wc := (Fr.of_below (f5.below (Nat.le_refl _) (by simp))).mono (by simp)
    have hne : w.heap.size ≠ s ∧ w.heap.size ≠ p ∧ w.heap.size ≠ b := by omega
    have hf0 : Fr [] w wc := Fr.of_below (f5.below (Nat.le_refl _) (by simp))
    have c0 : wc.drew.cell? ⟨s, 0, none⟩ = some (.pointer (some ⟨p, 0, none⟩)) := (HS.out.head.fr hf0 (by simp)).drew.cell 0
    have c1 : wc.drew.cell? ⟨s, 1, none⟩ = some (.int .i64 at_) := (HS.out.head.fr hf0 (by simp)).drew.cell 1
    have hw : IntKind.wrap .i64 (at_ + x) = at_ + x := by
      simp [IntKind.wrap, IntKind.bits, IntKind.signed]
      omega
    have hsl6 := hb5.drew.sl (by rw [img_len n l (by omega)]; decide)
    have HW := Lib.hid (write_any wc.drew p b D (HD.out.fr hf0.drew (by simp) (by simp)) (by omega) (at_ + x) _ _ (img n l) hsl6)
    rw [img_len n l (by omega)] at HW
    obtain ⟨c, hc⟩ : ∃ c, Hid (D.wcode (at_ + x) 64 = c) := ⟨_, rfl⟩
    rw [hc.out] at HW
    have F5 := Lib.hid f5
    have HF5 := Lib.hid hF5
    clear hsl6 hb5 f5 hF5 hf0 HB1 HB2 HB4 HSUM HPUT F1 F2 F4
    go_upto_region 6 with (fail)
    obtain ⟨wd, rfl⟩ : ∃ wd : World, wd = wc := ⟨_, rfl⟩
    go_cut [10] (fun s10 wx => s10 = .int .i64 c ∧ DevAt wx p b (D.writes (at_ + x) (img n l)) ∧ Fr [p, b] wd wx)
    case first =>
      go_region_with (go_at_call 17; refine HW.out.mono ?_; rintro e w6 ⟨rfl, hd6, f6⟩; have HD6 := Lib.hid hd6; have F6 := Lib.hid f6; clear hd6 f6)
      all_goals
        go_wp2_with (fail)
        go_meet
        exact ⟨rfl, HD6.out, ((Fr.refl [p, b] wd).drew).trans F6.out⟩
    case rest =>
      obtain ⟨rfl, hd6, f6⟩ := hcut
      have HF6 := Lib.hid (HF5.out.trans (f6.mono (by simp)))
      have HD6 := Lib.hid hd6
      have hcs : Hid (p ≠ b ∧ s ≠ p ∧ s ≠ b) := ⟨hd6.ne, HS.out.head.ne HD.out.1 (by decide), HS.out.head.ne HD.out.2.1 (by decide)⟩
      have ho := own_ne HS.out.text HS.out.head (by decide)
      have ho2 := own_ne HS.out.text HD.out.1 (by decide)
      have ho3 := own_ne HS.out.text HD.out.2.1 (by decide)
      have hh6 := ((HS.out.head.fr F5.out (by simp; omega)).fr f6 (by simpa using hcs.out.2))
      have ht6 : wc.ownsRow 0 5 1 tv l0.length (bv l0) := ownsRow_fr HS.out.text (((Fr.of_below (F5.out.below (Nat.le_refl _) (by simp))).mono (by simp)).trans f6) (by
        intro k hk hm
        simp only [List.mem_cons, List.not_mem_nil, or_false] at hm
        rcases hm with rfl | rfl
        · exact ho2 hk
        · exact ho3 hk)
      have HS6 : Hid (SupAt wc s p at_ x0 n0 tv l0) := ⟨hh6, ht6⟩
      clear hd6 f6 hh6 ht6 c0 c1 HW
      by_cases hc0 : c = 0
      · subst hc0
        have hcal := writes_calls D (at_ + x) (img n l)
        have c0 : wc.cell? ⟨s, 0, none⟩ = some (.pointer (some ⟨p, 0, none⟩)) := HS6.out.head.cell 0
        have HFL := Lib.hid (flush_any wc p b _ HD6.out (by omega))
        obtain ⟨d, hd⟩ : ∃ d, Hid ((D.writes (at_ + x) (img n l)).isDead = d) := ⟨_, rfl⟩
        rw [hd.out] at HFL
        go_wp2_with (fail)
        refine HFL.out.mono ?_
        rintro e w7 ⟨rfl, hd7, f7⟩
        have HD7 := Lib.hid hd7
        have HF7 := Lib.hid (HF6.out.trans (f7.mono (by simp)))
        have hh7 := HS6.out.head.fr f7 (by simpa using hcs.out.2)
        have ht7 : w7.ownsRow 0 5 1 tv l0.length (bv l0) := ownsRow_fr HS6.out.text f7 (by
          intro k hk hm
          simp only [List.mem_cons, List.not_mem_nil, or_false] at hm
          rcases hm with rfl | rfl
          · exact ho2 hk
          · exact ho3 hk)
        have HS7 : Hid (SupAt w7 s p at_ x0 n0 tv l0) := ⟨hh7, ht7⟩
        clear hd7 f7 hh7 ht7 c0 HFL
        cases d
        · simp only [Bool.false_eq_true, if_false]
          have hv7 := HV.out w7 HF7.out
          go_wp2_with (fail)
          refine (clone_any w7 _ l hv7 (by omega)).mono ?_
          rintro e w8 ⟨⟨v8, rfl, own8⟩, b8⟩
          obtain ⟨av8, cv8, rfl⟩ := own_form own8
          have hh8 := HS7.out.head.below b8 HS7.out.head.lt
          obtain ⟨y2, c2⟩ : ∃ y2, w8.cell? ⟨s, 2, none⟩ = some y2 := ⟨_, hh8.cell 2⟩
          obtain ⟨y3, c3⟩ : ∃ y3, w8.cell? ⟨s, 3, none⟩ = some y3 := ⟨_, hh8.cell 3⟩
          obtain ⟨y4, c4⟩ : ∃ y4, w8.cell? ⟨s, 4, none⟩ = some y4 := ⟨_, hh8.cell 4⟩
          have q2 := hh8.free 2
          have q3 := hh8.free 3
          have q4 := hh8.free 4
          have ho8 := own_ne own8 hh8 (by decide)
          have HH8 := Lib.hid ((((hh8.set 2 (.int .i64 x)).set 3 (.int .i64 (n : Int))).set 4 (.slice av8 l.length cv8)))
          have FR8 := Lib.hid (((((Fr.refl [s] w8).setCell (p := ⟨s, 2, none⟩) (by simp) (.int .i64 x)).setCell (p := ⟨s, 3, none⟩) (by simp) (.int .i64 (n : Int))).setCell (p := ⟨s, 4, none⟩) (by simp) (.slice av8 l.length cv8)))
          have OWN8 := Lib.hid own8
          have B8 := Lib.hid b8
          clear own8 b8 hh8 hv7
          go_wp2_with (fail)
          go_ret
          unfold Wrote
          have e1 : D.scode (at_ + x) (img n l) = 0 := by
            unfold DM.scode
            rw [hc.out, hd.out]
            rfl
          have e2 : D.swrite (at_ + x) (img n l) = (D.writes (at_ + x) (img n l)).flushes := by
            unfold DM.swrite
            rw [hc.out]
            rfl
          rw [e1, e2, if_pos rfl]
          refine ⟨rfl, (HD7.out.below B8.out HD7.out.lt.1 HD7.out.lt.2).fr FR8.out (by have := hcs.out; simp; omega) (by have := hcs.out; simp; omega), ⟨_, HH8.out, ownsRow_fr OWN8.out FR8.out (by
            intro k hk hm
            simp only [List.mem_cons, List.not_mem_nil, or_false] at hm
            subst hm
            exact ho8 hk)⟩, (HF7.out.trans ((Fr.of_below B8.out).mono (by simp))).trans (FR8.out.mono (by simp))⟩
        · simp only [if_true]
          go_wp2_with (fail)
          go_ret
          unfold Wrote
          have e1 : D.scode (at_ + x) (img n l) = 7 := by
            unfold DM.scode
            rw [hc.out, hd.out]
            rfl
          have e2 : D.swrite (at_ + x) (img n l) = (D.writes (at_ + x) (img n l)).flushes := by
            unfold DM.swrite
            rw [hc.out]
            rfl
          rw [e1, e2]
          exact ⟨rfl, HD7.out, ⟨_, HS7.out⟩, HF7.out⟩
      · have hc1 : (c == 0) = false := by simpa using hc0
        go_wp2_with (fail)
        go_ret
        unfold Wrote
        have e1 : D.scode (at_ + x) (img n l) = c := by
          unfold DM.scode
          rw [hc.out, if_neg hc0]
        have e2 : D.swrite (at_ + x) (img n l) = D.writes (at_ + x) (img n l) := by
          unfold DM.swrite
          rw [hc.out, if_neg hc0]
        rw [e1, e2, if_neg hc0]
        exact ⟨rfl, HD6.out, ⟨_, HS6.out⟩, HF6.out⟩
end Go.Proofs.Ytchibinlcedjaaa
