import Derived.Test.YtchibinlcedjaaaD9
import Derived.Deep.AppendLies
namespace Go.Proofs.Ytchibinlcedjaaa
open Go.RowKit
theorem new_m (w : World) (n : Int) : Calls Try.prog 14 #[.int .i64 n] w fun e w' => Made w.heap.size (fresh (min (max n 1) 2048).toNat) e w' ∧ Below w.heap.size w w' :=
  (new_c w n).mono fun _ _ ⟨⟨p, b, h1, h2, h3, h4⟩, h5⟩ => ⟨⟨p, b, h1, h2, h3, h4⟩, h5⟩
def DM.wcode (D : DM) (i : Int) (n : Nat) : Int := if D.isDead then 7 else if i < 0 ∨ (D.secs.length : Int) ≤ i then 3 else if 64 < n then 1 else 0
def DM.writes (D : DM) (i : Int) (l : List UInt8) : DM := if D.wcode i l.length = 0 then D.write i.toNat l else D
theorem write_any (w : World) (p b : Nat) (D : DM) (h : DevAt w p b D) (hcl : D.calls ≤ 1000000) (i : Int) (B : Nat) (v : Value) (l : List UInt8) (hv : Sl w B v l) :
    Calls Try.prog 17 #[.pointer (some ⟨p, 0, none⟩), .int .i64 i, v] w fun e w' => e = .returned (.int .i64 (D.wcode i l.length)) ∧ DevAt w' p b (D.writes i l) ∧ Fr [p, b] w w' := by
  unfold DM.writes DM.wcode
  cases hd : D.isDead
  · simp only [Bool.false_eq_true, if_false]
    by_cases hi : i < 0 ∨ (D.secs.length : Int) ≤ i
    · rw [if_pos hi]
      exact (write_out w p b D h hd i hi v).mono fun e w' ⟨h1, h2⟩ => ⟨h1, h2 ▸ h, h2 ▸ Fr.refl _ _⟩
    · rw [if_neg hi]
      by_cases hn : 64 < l.length
      · rw [if_pos hn]
        obtain ⟨a, cap, rfl, _⟩ := Sv.form hv
        exact (write_long w p b D h hd i (by omega) (by omega) a _ cap hn).mono fun e w' ⟨h1, h2⟩ => ⟨h1, h2 ▸ h, h2 ▸ Fr.refl _ _⟩
      · rw [if_neg hn]
        have e : i = (i.toNat : Int) := by omega
        have := write_c w p b D h hd hcl i.toNat (by omega) B v l hv (by omega)
        rw [← e] at this
        exact this
  · simp only [if_true]
    exact (write_dead w p b D h hd i v).mono fun e w' ⟨h1, h2⟩ => ⟨h1, h2 ▸ h, h2 ▸ Fr.refl _ _⟩
def DM.flushes (D : DM) : DM := if D.isDead then D else D.flush
theorem flush_any (w : World) (p b : Nat) (D : DM) (h : DevAt w p b D) (hcl : D.calls ≤ 1000000) :
    Calls Try.prog 20 #[.pointer (some ⟨p, 0, none⟩)] w fun e w' => e = .returned (.int .i64 (if D.isDead then 7 else 0)) ∧ DevAt w' p b D.flushes ∧ Fr [p, b] w w' := by
  unfold DM.flushes
  cases hd : D.isDead
  · exact flush_c w p b D h hd hcl
  · exact (flush_dead w p b D h hd).mono fun e w' ⟨h1, h2⟩ => ⟨h1, h2 ▸ h, h2 ▸ Fr.refl _ _⟩
theorem DevAt.below {w w' : World} {p b B : Nat} {D : DM} (h : DevAt w p b D) (f : Below B w w') (hp : p < B) (hb : b < B) : DevAt w' p b D := ⟨h.1.below f hp, h.2.1.below f hb, h.2.2⟩
theorem DevAt.lt {w : World} {p b : Nat} {D : DM} (h : DevAt w p b D) : p < w.heap.size ∧ b < w.heap.size := ⟨h.1.lt, h.2.1.lt⟩
/-- A block that has just been made, as a slice. -/
theorem Sl.new (w : World) (l : List UInt8) (fr : Nat × Nat) (cap : Nat) (h1 : l.length ≤ cap) (h2 : cap ≤ maxLen) :
    Sl (w.alloc (.cells (bv l).toArray 5 fr)) (w.heap.size + 1) (.slice (some ⟨w.heap.size, 0, none⟩) l.length cap) l := by
  refine ⟨by rw [bv_len, Nat.mul_one], by unfold maxLen at h2; omega, _, cap, rfl, h1, h2, by simp, .inr ⟨w.heap.size, 0, rfl, by omega, fun i hi => ?_⟩⟩
  have : (w.alloc (.cells (bv l).toArray 5 fr)).heap[w.heap.size]? = some (.cells (bv l).toArray 5 fr) := heap_alloc_new w _
  simp only [World.cell?, Nat.zero_add]
  rw [this]
  have hi' : i < (bv l).length := hi
  simp [hi']
theorem own_lt {w : World} {base : Nat} {e : TypeId} {size n cap g : Nat} {xs : List Value} (h : w.ownsRow base e size (.slice (some ⟨g, 0, none⟩) n cap) n xs) : g < w.heap.size := (h.lt g rfl).2
theorem bv_at {l : List Sec} {i j : Nat} {c : UInt8} (h : (l[i]?).map (·.now[j]?) = some (some c)) (hi : i < l.length := by decide) : (bv (l[i]).now)[j]? = some (.int .u8 (c.toNat : Int)) := by
  rw [List.getElem?_eq_getElem hi] at h
  have h1 : (l[i]).now[j]? = some c := by simpa using h
  rw [bv, List.getElem?_map, h1]; rfl
theorem Fr.cell {S : List Nat} {w w' : World} (f : Fr S w w') {b o : Nat} {v : Value} (h : w.cell? ⟨b, o, none⟩ = some v) (hb : b ∉ S) : w'.cell? ⟨b, o, none⟩ = some v := by
  have hlt := lt_of_cell h
  rw [← h]
  exact World.cell?_of_block (f.block b hlt hb)
def begD : DM := (fresh 3).writes 1 [97, 98]
theorem beg1 : (fresh 3).wcode 1 2 = 0 := by decide
theorem beg2 : begD.loose = [1] := by decide
theorem beg3 : ((begD.crash []).secs[1]?).map (·.now[0]?) = some (some 0) := by decide
theorem beg4 : ((begD.crash [true]).secs[1]?).map (·.now[1]?) = some (some 98) := by decide
theorem beg5 : (begD.fused 0).isDead = true := by decide
theorem beg6 : (begD.fused 0).calls = 1 := by decide
theorem beg7 : (begD.crash []).isDead = false := by decide

set_option maxHeartbeats 1000000 in
theorem begun_c (w : World) : Calls Try.prog 13 #[] w fun e w' => e = .returned (.bool true) ∧ Below w.heap.size w w' := by
  have kc := fun (w : World) (C : Array Value) (n c : Nat) => Lib.run_convert_bytes_const (P := Try.prog) w 31 5 C n c Try.underlying31 Try.underlying5
  go_enter Try.func13, Try.ntmps13
  go_wp2_with (fail)
  refine (new_m w 3).mono ?_
  rintro e w1 ⟨⟨p, b, rfl, hp, hb, hD⟩, bel1⟩
  change DevAt w1 p b (fresh 3) at hD
  have HD := Lib.hid hD
  have B1 := Lib.hid bel1
  have hz1 := bel1.size
  clear hD bel1
  go_wp2_with (fail)
  refine (len_c w1 p b _ HD.out).mono ?_
  rintro e w' ⟨rfl, rfl⟩
  rw [show ((fresh 3).secs.length : Int) = 3 from rfl]
  go_wp2_with (fail)
  have hsl := Sl.new w1 [97, 98] (2, 3) 2 (by simp) (by simp [maxLen])
  have hd2 : DevAt (w1.alloc (.cells (bv [97, 98]).toArray 5 (2, 3))) p b (fresh 3) := HD.out.fr ((Fr.refl [] _).alloc _) (by simp) (by simp)
  refine (write_any _ p b _ hd2 (by decide) 1 _ _ [97, 98] hsl).mono ?_
  rintro e w2 ⟨rfl, hD2, f2⟩
  rw [show (fresh 3).wcode 1 ([97, 98] : List UInt8).length = 0 from beg1]
  change DevAt w2 p b begD at hD2
  have HD2 := Lib.hid hD2
  have hbel2 : Below w.heap.size w w2 := (B1.out.alloc hz1 (.cells (bv [97, 98]).toArray 5 (2, 3))).trans (f2.below (B := w.heap.size) (by simp; omega) (by simp; omega))
  have B2 := Lib.hid hbel2
  have hz2 := hbel2.size
  clear hsl hd2 hD2 f2 hbel2
  go_wp2_with (fail)
  refine (loose_c w2 p b _ HD2.out).mono ?_
  rintro e w3 ⟨⟨v, rfl, own⟩, bel3⟩
  rw [beg2] at own
  have HD3 := Lib.hid (HD2.out.below bel3 HD2.out.lt.1 HD2.out.lt.2)
  have B3 := Lib.hid (B2.out.trans (bel3.mono hz2))
  have hz3 := bel3.size
  obtain ⟨g, cap, rfl, hgp, hgl⟩ : ∃ g cap, v = .slice (some ⟨g, 0, none⟩) 1 cap ∧ w2.heap.size ≤ g ∧ g < w3.heap.size := by
    obtain ⟨g, cap, h1, h3, h2⟩ := own.form (by decide)
    exact ⟨g, cap, h1, h3, h2⟩
  have hi0 := own.cellAt 0 (by decide)
  change w3.cell? ⟨g, 0, none⟩ = some (.int .i64 1) at hi0
  have HI := Lib.hid hi0
  have hlen1 : ([1] : List Int).length = 1 := rfl
  clear own hi0 bel3
  go_wp2_with (fail)
  refine (crash_c w3 p b _ HD3.out 0 _ [] (Sv.nil _ _ _) (by omega)).mono ?_
  rintro e w4 ⟨⟨p1, b1, rfl, hp1, hb1, hE⟩, bel4⟩
  have HD4 := Lib.hid (HD3.out.below bel4 HD3.out.lt.1 HD3.out.lt.2)
  have HE := Lib.hid hE
  have B4 := Lib.hid (B3.out.trans (bel4.mono (by omega)))
  have HI4 := Lib.hid ((bel4.cell (p := ⟨g, 0, none⟩) hgl).trans HI.out)
  have hz4 := bel4.size
  clear hE bel4 HI
  go_wp2_with (fail)
  have hkeep := (Bl.new w4 4 [.bool true]).sv (B := w4.heap.size + 1) 1 0 1 1 (by omega) (by simp) (Nat.le_refl _) (by simp [maxLen])
  have hD4' : DevAt (w4.alloc (.cells #[.bool true] 4)) p b begD := HD4.out.fr ((Fr.refl [] _).alloc _) (by simp) (by simp)
  refine (crash_c _ p b _ hD4' (w4.heap.size + 1) _ [true] hkeep (by simp)).mono ?_
  rintro e w5 ⟨⟨p2, b2, rfl, hp2, hb2, hF⟩, bel5⟩
  simp only [size_alloc] at hp2 hb2 bel5
  have bel5' : Below w4.heap.size w4 w5 := ((Below.refl _ _).alloc (Nat.le_refl _) _).trans (bel5.mono (by omega))
  have HD5 := Lib.hid (HD4.out.below bel5' HD4.out.lt.1 HD4.out.lt.2)
  have HE5 := Lib.hid (HE.out.below bel5' HE.out.lt.1 HE.out.lt.2)
  have HF := Lib.hid hF
  have B5 := Lib.hid (B4.out.trans (bel5'.mono (by omega)))
  have HI5 := Lib.hid ((bel5'.cell (p := ⟨g, 0, none⟩) (by simp; omega)).trans HI4.out)
  have hz5 := bel5'.size
  clear hkeep hD4' hF bel5 bel5' HI4
  go_wp2_with (fail)
  refine (read_c w5 p1 b1 _ HE5.out 1 (by decide)).mono ?_
  rintro e w6 ⟨⟨g6, c6, rfl, own6⟩, bel6⟩
  have hx0 := own6.cellAt 0 (by decide)
  rw [bv_at beg3] at hx0
  have hg6 := own_lt own6
  have hg6p := (own6.lt g6 rfl).1
  have HX := Lib.hid hx0
  have HD6 := Lib.hid (HD5.out.below bel6 HD5.out.lt.1 HD5.out.lt.2)
  have HE6 := Lib.hid (HE5.out.below bel6 HE5.out.lt.1 HE5.out.lt.2)
  have HF6 := Lib.hid (HF.out.below bel6 HF.out.lt.1 HF.out.lt.2)
  have B6 := Lib.hid (B5.out.trans (bel6.mono (by omega)))
  have HI6 := Lib.hid ((bel6.cell (p := ⟨g, 0, none⟩) (by simp; omega)).trans HI5.out)
  have hz6 := bel6.size
  clear hx0 own6 bel6
  go_wp2_with (fail)
  refine (read_c w6 p2 b2 _ HF6.out 1 (by decide)).mono ?_
  rintro e w7 ⟨⟨g7, c7, rfl, own7⟩, bel7⟩
  have hy1 := own7.cellAt 1 (by decide)
  rw [bv_at beg4] at hy1
  have HD7 := Lib.hid (HD6.out.below bel7 HD6.out.lt.1 HD6.out.lt.2)
  have HE7 := Lib.hid (HE6.out.below bel7 HE6.out.lt.1 HE6.out.lt.2)
  have B7 := Lib.hid (B6.out.trans (bel7.mono (by omega)))
  have HI7 := Lib.hid ((bel7.cell (p := ⟨g, 0, none⟩) (by simp; omega)).trans HI6.out)
  have HX7 := Lib.hid ((bel7.cell (p := ⟨g6, 0, none⟩) hg6).trans HX.out)
  have hz7 := bel7.size
  have HY := Lib.hid hy1
  have hg7p := (own7.lt g7 rfl).1
  clear hy1 own7 bel7
  go_wp2_with (fail)
  refine (fuse_c w7 p b _ HD7.out 0 (by decide)).mono ?_
  rintro e w8 ⟨rfl, hD8, f8⟩
  have hpl := HD2.out.lt.1
  have hp12 : p ≠ p1 ∧ p ≠ b1 := ⟨by have := HD3.out.lt.1; omega, by have := HD3.out.lt.1; omega⟩
  have HE8 := Lib.hid (HE7.out.fr f8 (by simp; exact hp12.1.symm) (by simp; exact hp12.2.symm))
  have hI8 := f8.cell HI7.out (by simp; omega)
  have hX8 := f8.cell HX7.out (by simp; omega)
  have hY8 := f8.cell HY.out (by simp; omega)
  have B8 := Lib.hid (B7.out.trans (f8.below (B := w.heap.size) (by omega) (by simp; omega)))
  have HD8 := Lib.hid hD8
  clear hD8 f8
  go_wp2_with (fail)
  refine (write_dead w8 p b _ HD8.out beg5 9 _).mono ?_
  rintro e w' ⟨rfl, rfl⟩
  go_wp2_with (fail)
  refine (flush_dead w8 p b _ HD8.out beg5).mono ?_
  rintro e w' ⟨rfl, rfl⟩
  go_wp2_with (fail)
  refine (calls_c w8 p b _ HD8.out).mono ?_
  rintro e w' ⟨rfl, rfl⟩
  rw [beg6]
  go_wp2_with (fail)
  refine (dead_c w8 p b _ HD8.out).mono ?_
  rintro e w' ⟨rfl, rfl⟩
  rw [beg5]
  go_wp2_with (fail)
  refine (dead_c w8 p1 b1 _ HE8.out).mono ?_
  rintro e w' ⟨rfl, rfl⟩
  rw [beg7]
  go_wp2_with (fail)
  go_ret
  exact ⟨rfl, B8.out⟩
end Go.Proofs.Ytchibinlcedjaaa
