import Derived.Test.YtchibinlcedjaaaS14
namespace Go.Proofs.Ytchibinlcedjaaa
open Go.RowKit
theorem crash_k (w : World) (p b : Nat) (X : List (List UInt8)) (c : Nat) (h : DevAt w p b (clean X c)) (B : Nat) (v : Value) (kl : List Bool) (hv : Sv w B 1 v kl.length (tv kl)) (hB : B ≤ w.heap.size) :
    Calls Try.prog 21 #[.pointer (some ⟨p, 0, none⟩), v] w fun e w' => Made w.heap.size (clean X 0) e w' ∧ Below w.heap.size w w' := by
  have := crash_c w p b _ h B v kl hv hB
  rw [clean_crash] at this
  exact this
theorem crash_k0 (w : World) (p b : Nat) (X : List (List UInt8)) (c : Nat) (h : DevAt w p b (clean X c)) :
    Calls Try.prog 21 #[.pointer (some ⟨p, 0, none⟩), .slice none 0 0] w fun e w' => Made w.heap.size (clean X 0) e w' ∧ Below w.heap.size w w' :=
  crash_k w p b X c h 0 _ [] (Sv.nil w 0 1) (Nat.zero_le _)
theorem new_k (w : World) (n : Int) : Calls Try.prog 14 #[.int .i64 n] w fun e w' => Made w.heap.size (clean (List.replicate (min (max n 1) 2048).toNat zero64) 0) e w' ∧ Below w.heap.size w w' := by
  have := new_m w n
  rw [fresh_clean] at this
  exact this
theorem Bl.keeps {w : World} {g : Nat} {l : List UInt8} (h : Bl w g 5 (bv l)) (hl : l.length ≤ 1000000) {S : List Nat} (hg : g ∉ S) : ∀ w', Fr S w w' → Sl w' w'.heap.size (.slice (some ⟨g, 0, none⟩) l.length l.length) l :=
  fun _ f => (h.fr f hg).sl hl
theorem Sl.keeps {w : World} {B : Nat} {v : Value} {l : List UInt8} (h : Sl w B v l) (hB : B ≤ w.heap.size) {S : List Nat} (hS : ∀ k ∈ S, B ≤ k) : ∀ w', Fr S w w' → Sl w' w'.heap.size v l :=
  fun _ f => Sv.below h (Nat.le_trans hB f.size) (f.below hB hS) (Nat.le_refl _)
theorem Sl.keepsAt {w : World} {B g o n c : Nat} {l : List UInt8} (h : Sl w B (.slice (some ⟨g, o, none⟩) n c) l) {S : List Nat} (hg : g ∉ S) (hlt : g < w.heap.size) : ∀ w', Fr S w w' → Sl w' w'.heap.size (.slice (some ⟨g, o, none⟩) n c) l := by
  intro w' f
  obtain ⟨hl, hm, a, cap, e, h0, h1, hn, h2⟩ := h
  refine ⟨hl, hm, a, cap, e, h0, h1, hn, h2.imp id ?_⟩
  injection e with e1 e2 e3
  subst e1
  rintro ⟨b, off, e1, hb, hc⟩
  injection e1 with e1
  injection e1 with e1 e2
  subst e1 e2
  exact ⟨g, o, rfl, Nat.lt_of_lt_of_le hlt f.size, fun i hi => (World.cell?_of_block (f.block g hlt hg)).trans (hc i hi)⟩
/-- The bytes of a constant, as a slice of one's own. -/
theorem const_keeps (w : World) (l : List UInt8) (fr : Nat × Nat) {S : List Nat} (hS : w.heap.size ∉ S) (hl : l.length ≤ 1000) : ∀ w', Fr S (w.alloc (.cells (bv l).toArray 5 fr)) w' → Sl w' w'.heap.size (.slice (some ⟨w.heap.size, 0, none⟩) l.length l.length) l :=
  Sl.keepsAt (Sl.new w l fr l.length (Nat.le_refl _) (by unfold maxLen; omega)) hS (by simp)
theorem SupX.below {w w' : World} {s p : Nat} {at_ slot turn : Int} {l : List UInt8} (h : SupX w s p at_ slot turn l) (f : Below w.heap.size w w') : SupX w' s p at_ slot turn l := by
  obtain ⟨tv, h⟩ := h
  exact ⟨tv, h.head.below f h.head.lt, ownsRow_fr h.text (Fr.of_below f) (by simp)⟩
theorem SupX.lt {w : World} {s p : Nat} {at_ slot turn : Int} {l : List UInt8} (h : SupX w s p at_ slot turn l) : s < w.heap.size := by
  obtain ⟨tv, h⟩ := h
  exact h.head.lt
theorem text_k (w : World) (s p : Nat) (at_ slot turn : Int) (l : List UInt8) (h : SupX w s p at_ slot turn l) (hl : l.length ≤ 1000) :
    Calls Try.prog 34 #[.pointer (some ⟨s, 0, none⟩)] w fun e w' => (∃ v', e = .returned v' ∧ w'.ownsRow 0 5 1 v' l.length (bv l)) ∧ Below w.heap.size w w' := by
  obtain ⟨tv, h⟩ := h
  exact text_c w s p at_ slot turn tv l h hl
theorem turn_k (w : World) (s p : Nat) (at_ slot turn : Int) (l : List UInt8) (h : SupX w s p at_ slot turn l) :
    Calls Try.prog 35 #[.pointer (some ⟨s, 0, none⟩)] w fun e w' => e = .returned (.int .i64 turn) ∧ w = w' := by
  obtain ⟨tv, h⟩ := h
  exact turn_c w s p at_ slot turn tv l h
set_option maxHeartbeats 1000000 in
theorem begun12_c (w : World) : Calls Try.prog 32 #[] w fun e w' => e = .returned (.bool true) ∧ Below w.heap.size w w' := by
  obtain ⟨X, hX⟩ : ∃ X, Hid (List.replicate 4 zero64 = X) := ⟨_, rfl⟩
  have hXf : Full X := by rw [← hX.out]; exact full_zero 4
  have hXl : X.length = 4 := by rw [← hX.out]; rfl
  have hXg : ∀ i, i < 4 → X[i]? = some zero64 := by
    intro i hi
    rw [← hX.out, List.getElem?_replicate, if_pos hi]
  have kc := fun (w : World) (C : Array Value) (n c : Nat) => Lib.run_convert_bytes_const (P := Try.prog) w 31 5 C n c Try.underlying31 Try.underlying5
  go_enter Try.func32, Try.ntmps32
  go_wp2_with (fail)
  refine (new_k w 4).mono ?_
  rintro e w1 ⟨⟨p, b, rfl, hp, hb, hD⟩, bel1⟩
  change DevAt w1 p b (clean (List.replicate 4 zero64) 0) at hD
  rw [hX.out] at hD
  have HD1 := Lib.hid hD
  have B1 := Lib.hid bel1
  have hz1 := bel1.size
  have hlt := hD.lt
  clear hD bel1
  go_wp2_with (fail)
  refine (make_k _ p b X hXf 0 (HD1.out.fr ((Fr.refl [] _).alloc _) (by simp) (by simp)) (by decide) 1 (by omega) _ [97, 98] (const_keeps w1 [97, 98] (2, 3) (by simp; omega) (by decide)) (by decide)).mono ?_
  rintro e w2 ⟨⟨s, rfl, hs0, hS⟩, hD2, f2⟩
  simp only [size_alloc] at hs0
  have hh2 := Holds.make X 1 (by omega) [97, 98] (by decide)
  have hf2 := full_make hXf 1 [97, 98] (by decide)
  obtain ⟨Y, hY⟩ : ∃ Y, Hid (((X.set 1 zero64).set (1 + 1) zero64).set 1 (img 1 [97, 98]) = Y) := ⟨_, rfl⟩
  rw [hY.out] at hD2 hh2 hf2
  have hYl : Y.length = 4 := by rw [← hY.out]; simp [hXl]
  have HH2 := Lib.hid hh2
  have HS2 := Lib.hid hS
  have HD2 := Lib.hid hD2
  have B2 := Lib.hid ((B1.out.alloc (by omega) _).trans (f2.below (B := w.heap.size) (by simp; omega) (by simp; omega)))
  have hz2 := B2.out.size
  have hsl := hS.lt
  have hzz2 := f2.size
  simp only [size_alloc] at hzz2
  clear hS hD2 f2 hh2
  go_wp2_with (fail)
  refine (save_k _ s p b Y hf2 _ 1 0 1 [97, 98] (HS2.out.below ((Below.refl _ _).alloc (Nat.le_refl _) _)) (HD2.out.fr ((Fr.refl [] _).alloc _) (by simp) (by simp)) (by decide) (by omega) (by decide) (by decide) (by decide) _ [99, 100] (const_keeps w2 [99, 100] (2, 3) (by simp; omega) (by decide)) (by decide)).mono ?_
  rintro e w3 ⟨rfl, hD3, hS3, f3⟩
  have hh3 := HH2.out.save [99, 100] (by decide) (by decide)
  obtain ⟨Z, hZ⟩ : ∃ Z, Hid (Y.set (((1 : Nat) : Int) + (1 - 0)).toNat (img (1 + 1) [99, 100]) = Z) := ⟨_, rfl⟩
  rw [hZ.out] at hD3 hh3
  have HH3 := Lib.hid hh3
  have HD3 := Lib.hid hD3
  have B3 := Lib.hid ((B2.out.alloc (by omega) _).trans (f3.below (B := w.heap.size) (by simp; omega) (by simp; omega)))
  have hz3 := B3.out.size
  have hsz := f3.size
  simp only [size_alloc] at hsz
  have hZl : Z.length = 4 := by rw [← hZ.out]; simp [hYl]
  clear hD3 hS3 f3 hh3
  go_wp2_with (fail)
  refine (crash_k0 w3 p b Z _ HD3.out).mono ?_
  rintro e w4 ⟨⟨p4, b4, rfl, hp4, hb4, hD4⟩, bel4⟩
  have HD4 := Lib.hid hD4
  have HD3' := Lib.hid (HD3.out.below bel4 HD3.out.lt.1 HD3.out.lt.2)
  have B4 := Lib.hid (B3.out.trans (bel4.mono hz3))
  have hz4 := B4.out.size
  clear hD4 bel4
  go_wp2_with (fail)
  refine (open_any w4 p4 b4 _ Z HD4.out (map_now Z 0) 1 (1 - 0) (1 + 1) [99, 100] HH3.out).mono ?_
  rintro e w5 ⟨⟨s5, rfl, hs5, hS5⟩, bel5⟩
  have HS5 := Lib.hid hS5
  have HD5 := Lib.hid (HD3'.out.below bel5 HD3'.out.lt.1 HD3'.out.lt.2)
  have B5 := Lib.hid (B4.out.trans (bel5.mono hz4))
  have hz5 := B5.out.size
  clear hS5 bel5
  go_wp2_with (fail)
  refine (new_k w5 4).mono ?_
  rintro e w6 ⟨⟨p6, b6, rfl, hp6, hb6, hD6⟩, bel6⟩
  change DevAt w6 p6 b6 (clean (List.replicate 4 zero64) 0) at hD6
  rw [hX.out] at hD6
  have HD6 := Lib.hid hD6
  have HS6 := Lib.hid (HS5.out.below bel6)
  have HDD6 := Lib.hid (HD5.out.below bel6 HD5.out.lt.1 HD5.out.lt.2)
  have B6 := Lib.hid (B5.out.trans (bel6.mono hz5))
  have hz6 := B6.out.size
  clear hD6 bel6
  go_wp2_with (fail)
  refine (open_none w6 p6 b6 X 0 HD6.out 1 (hXg 1 (by decide)) (hXg 2 (by decide))).mono ?_
  rintro e w7 ⟨rfl, bel7⟩
  have HS7 := Lib.hid (HS6.out.below bel7)
  have HD7 := Lib.hid (HDD6.out.below bel7 HDD6.out.lt.1 HDD6.out.lt.2)
  have B7 := Lib.hid (B6.out.trans (bel7.mono hz6))
  have hz7 := B7.out.size
  clear bel7
  go_wp2_with (fail)
  refine (make_out w7 p b _ HD7.out 3 (.inr (by simp [clean, hZl])) _ [] 0 (Sv.nil _ _ _) (by decide)).mono ?_
  rintro e w' ⟨rfl, rfl⟩
  go_wp2_with (fail)
  refine (text_k w7 s5 p4 _ _ _ [99, 100] HS7.out (by decide)).mono ?_
  rintro e w8 ⟨⟨v8, rfl, own8⟩, bel8⟩
  have HS8 := Lib.hid (HS7.out.below bel8)
  have B8 := Lib.hid (B7.out.trans (bel8.mono hz7))
  have cs := Sl.str (Sl.of_own own8)
  have hq : (str [99, 100]).toList = [99, 100] := by simp [str]
  have hq2 : (str [99, 100]).data.toList = [99, 100] := rfl
  clear bel8 own8
  generalize str [99, 100] = S at *
  go_wp2_with (fail)
  refine (turn_k w8 s5 p4 _ _ _ [99, 100] HS8.out).mono ?_
  rintro e w' ⟨rfl, rfl⟩
  go_wp2_with (fail)
  go_ret
  exact ⟨rfl, B8.out⟩
end Go.Proofs.Ytchibinlcedjaaa
