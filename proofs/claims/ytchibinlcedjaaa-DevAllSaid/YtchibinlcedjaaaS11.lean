import Derived.Test.YtchibinlcedjaaaS10
namespace Go.Proofs.Ytchibinlcedjaaa
open Go.RowKit
theorem make_long (w : World) (d : Value) (at_ : Int) (v : Value) (l : List UInt8) (B : Nat) (hv : Sl w B v l) (hl : 40 < l.length) :
    Calls Try.prog 30 #[d, .int .i64 at_, v] w fun e w' => e = .returned (.tuple #[.pointer none, .int .i64 1]) ∧ w = w' := by
  obtain ⟨av, cv, rfl, _⟩ := Sv.form hv
  clear hv
  go_enter Try.func30, Try.ntmps30
  go_wp2_with (fail)
  go_ret2
  exact ⟨rfl, rfl⟩
theorem make_out (w : World) (p b : Nat) (D : DM) (h : DevAt w p b D) (at_ : Int) (h1 : at_ < 0 ∨ (D.secs.length : Int) - 1 ≤ at_) (v : Value) (l : List UInt8) (B : Nat) (hv : Sl w B v l) (hl : l.length ≤ 40) :
    Calls Try.prog 30 #[.pointer (some ⟨p, 0, none⟩), .int .i64 at_, v] w fun e w' => e = .returned (.tuple #[.pointer none, .int .i64 3]) ∧ w = w' := by
  obtain ⟨av, cv, rfl, _⟩ := Sv.form hv
  have HT := there_c w p b D h at_
  have hd : (decide (0 ≤ at_) && decide (at_ < (D.secs.length : Int) - 1)) = false := by
    simp; omega
  rw [hd] at HT
  have HT := Lib.hid HT
  clear hv h hd
  go_enter Try.func30, Try.ntmps30
  go_wp2_with (go_at_call 40; refine (HT.out).mono ?_; rintro e w' ⟨rfl, rfl⟩)
  go_ret2
  exact ⟨rfl, rfl⟩
/-- A block that was made behind the start may change as well. -/
theorem Fr.past {S : List Nat} {s : Nat} {a b c : World} (h : Fr S a b) (k : Fr (s :: S) b c) (hs : a.heap.size ≤ s) : Fr S a c :=
  ⟨k.os.trans h.os, k.tape.trans h.tape, k.output.trans h.output, Nat.le_trans h.size k.size, fun i hi hn => (k.block i (Nat.lt_of_lt_of_le hi h.size) (by simp only [List.mem_cons, not_or]; exact ⟨by omega, hn⟩)).trans (h.block i hi hn)⟩
set_option maxHeartbeats 1000000 in
theorem make_c (w : World) (p b : Nat) (X : List (List UInt8)) (hX : Full X) (c : Nat) (h : DevAt w p b (clean X c)) (hc : c ≤ 1000) (at_ : Int) (h0 : 0 ≤ at_) (h1 : at_ + 1 < X.length) (v : Value) (l : List UInt8) (hv : ∀ w', Fr [p, b] w w' → Sl w' w'.heap.size v l) (hl : l.length ≤ 40) :
    Calls Try.prog 30 #[.pointer (some ⟨p, 0, none⟩), .int .i64 at_, v] w fun e w' => (∃ s, e = .returned (.tuple #[.pointer (some ⟨s, 0, none⟩), .int .i64 0]) ∧ w.heap.size ≤ s ∧ SupX w' s p at_ 0 1 l) ∧ DevAt w' p b (clean (((X.set at_.toNat zero64).set (at_ + 1).toNat zero64).set at_.toNat (img 1 l)) (c + 4)) ∧ Fr [p, b] w w' := by
  obtain ⟨av, cv, rfl, _⟩ := Sv.form (hv w (Fr.refl _ _))
  have hXl : X.length ≤ 2048 := by have := h.2.2.2.2.1; simpa [clean] using this
  have HT := there_c w p b _ h at_
  have hd : (decide (0 ≤ at_) && decide (at_ < ((clean X c).secs.length : Int) - 1)) = true := by
    simp [clean]; omega
  rw [hd] at HT
  have HT := Lib.hid HT
  obtain ⟨Z, hZ⟩ : ∃ Z : List UInt8, Hid (Z = zero64) := ⟨_, rfl⟩
  have hmk := run_make_bytes 64 (by decide) (by decide)
  rw [show List.replicate (64 : Int).toNat (0 : UInt8) = zero64 from rfl, show (64 : Int).toNat = 64 from rfl, ← hZ.out] at hmk
  have HD := Lib.hid h
  have HV := Lib.hid hv
  have hZl : Z.length = 64 := by rw [hZ.out]; rfl
  obtain ⟨f, hf⟩ : ∃ f : Nat → DM, Hid (f 0 = clean X c ∧ f 1 = (clean X c).writes at_ zero64 ∧ f 2 = ((clean X c).writes at_ zero64).writes (at_ + 1) zero64) :=
    ⟨fun n => match n with | 0 => clean X c | 1 => (clean X c).writes at_ zero64 | _ => ((clean X c).writes at_ zero64).writes (at_ + 1) zero64, ⟨rfl, rfl, rfl⟩⟩
  have hfs : Hid (∀ k, k < 2 → (f k).wcode (at_ + (k : Int)) 64 = 0 ∧ (f k).writes (at_ + (k : Int)) Z = f (k + 1) ∧ (f k).calls ≤ 100000) := by
    intro k hk
    rw [hZ.out]
    have hw := writes_ok (D := clean X c) rfl rfl at_ h0 (by simp [clean]; omega) zero64 (by decide)
    rcases (by omega : k = 0 ∨ k = 1) with rfl | rfl
    · rw [hf.out.1, hf.out.2.1]
      refine ⟨wcode_ok rfl rfl _ (by simpa using h0) (by simp [clean]; omega) 64 (by omega), by simp, by simp [clean]; omega⟩
    · rw [hf.out.2.1, hf.out.2.2]
      refine ⟨?_, rfl, ?_⟩
      · rw [hw]
        exact wcode_ok rfl rfl _ (by simp; omega) (by simp [clean]; omega) 64 (by omega)
      · rw [hw]
        simp [clean]; omega
  have hpl := h.lt
  clear h hv hd
  go_enter Try.func30, Try.ntmps30
  go_wp2_with (go_at_call 40; refine (HT.out).mono ?_; rintro e w' ⟨rfl, rfl⟩)
  go_loopg [8, 9, 21] 2 (fun q _ _ i wr => ∃ k : Nat, k + q = 2 ∧ i = .int .i64 (k : Int) ∧ DevAt wr p b (f k) ∧ Fr [p, b] w wr)
  case atStart => exact ⟨0, rfl, rfl, by rw [hf.out.1]; exact HD.out, Fr.refl _ _⟩
  case round =>
    obtain ⟨k, hk, rfl, hD, fr⟩ := hrel
    have HDk := Lib.hid hD
    have FR := Lib.hid fr
    clear hD fr
    by_cases hlt : k < 2
    · obtain ⟨e1, e2, e3⟩ := hfs.out k hlt
      have e2 := Lib.hid e2
      have e1 := Lib.hid e1
      have hi2 : (k : Int) < 2 := by omega
      have hk0 : (0 : Int) ≤ (k : Int) := by omega
      have hw : IntKind.wrap .i64 (at_ + (k : Int)) = at_ + (k : Int) := by
        simp [IntKind.wrap, IntKind.bits, IntKind.signed]
        omega
      have hsl : Sl (wr.alloc (.cells (bv Z).toArray 5)) (wr.alloc (.cells (bv Z).toArray 5)).heap.size (.slice (some ⟨wr.heap.size, 0, none⟩) 64 64) Z := by
        have := (Bl.new wr 5 (bv Z)).sl (by omega)
        rw [hZl] at this
        exact this
      have HW := Lib.hid (write_any _ p b (f k) (HDk.out.fr ((Fr.refl [] _).alloc _) (by simp) (by simp)) (by omega) (at_ + (k : Int)) _ _ Z hsl)
      rw [hZl, e1.out, e2.out] at HW
      clear hsl
      go_wp2_with (fail)
      refine HW.out.mono ?_
      rintro e w4 ⟨rfl, hd4, f4⟩
      have HD4 := Lib.hid hd4
      have FR4 := Lib.hid ((FR.out.alloc _).trans f4)
      clear hd4 f4
      go_wp2_with (fail)
      go_roundg (2 - (k + 1))
      case measure => omega
      case rel => exact ⟨k + 1, by omega, by go_num, HD4.out, FR4.out⟩
    · have e : k = 2 := by omega
      subst e
      rw [hf.out.2.2] at HDk
      go_upto_region 13 with (fail)
      have hbx : SupX (wr.alloc (.cells #[.pointer (some ⟨p, 0, none⟩), .int .i64 at_, .int .i64 0, .int .i64 0, .slice none 0 0] 73)) wr.heap.size p at_ 0 0 [] :=
        ⟨_, Bl.new wr 73 [.pointer (some ⟨p, 0, none⟩), .int .i64 at_, .int .i64 0, .int .i64 0, .slice none 0 0], by simp [bv], .inl ⟨rfl, rfl⟩⟩
      have hD5 := HDk.out.fr ((Fr.refl [] wr).alloc (.cells #[.pointer (some ⟨p, 0, none⟩), .int .i64 at_, .int .i64 0, .int .i64 0, .slice none 0 0] 73)) (by simp) (by simp)
      have FR5 := Lib.hid (FR.out.alloc (.cells #[.pointer (some ⟨p, 0, none⟩), .int .i64 at_, .int .i64 0, .int .i64 0, .slice none 0 0] 73))
      generalize wr.alloc (.cells #[.pointer (some ⟨p, 0, none⟩), .int .i64 at_, .int .i64 0, .int .i64 0, .slice none 0 0] 73) = w5 at *
      have hsz := FR.out.size
      obtain ⟨k1, k2⟩ := clean_make X hX c at_ h0 h1 (img 1 l) (img_len 1 l (by omega))
      have hcal : (((clean X c).writes at_ zero64).writes (at_ + 1) zero64).calls ≤ 100000 := by
        have h1 := writes_calls (clean X c) at_ zero64
        have h2 := writes_calls ((clean X c).writes at_ zero64) (at_ + 1) zero64
        simp only [clean] at h1 h2 ⊢
        omega
      have HC := Lib.hid (swrite_c w5 wr.heap.size p b _ at_ 0 0 [] hbx hD5 hcal h0 (by omega) 0 (by decide) (by decide) 1 (by decide) _ l (fun w' f => HV.out w' (FR5.out.past f hsz)) hl)
      have K1 := Lib.hid k1
      have K2 := Lib.hid k2
      clear hbx hD5 k1 k2 hcal
      go_wp2_with (fail)
      refine HC.out.mono ?_
      rintro e w6 ⟨rfl, hd6, hs6, f6⟩
      rw [Int.add_zero, K1.out, if_pos rfl] at hs6
      rw [Int.add_zero, K2.out] at hd6
      rw [Int.add_zero, K1.out]
      have HD6 := Lib.hid hd6
      have HS6 := Lib.hid hs6
      have F6 := Lib.hid f6
      clear hd6 hs6 f6
      go_wp2_with (fail)
      go_ret2
      exact ⟨⟨_, rfl, hsz, HS6.out⟩, HD6.out, FR5.out.past F6.out hsz⟩
end Go.Proofs.Ytchibinlcedjaaa
