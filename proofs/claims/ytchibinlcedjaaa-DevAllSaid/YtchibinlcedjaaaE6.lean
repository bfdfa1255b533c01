import Derived.Test.YtchibinlcedjaaaE5
namespace Go.Proofs.Ytchibinlcedjaaa
open Go.RowKit
theorem short_c (v : Value) (l : List UInt8) (n : Nat) (w : World) (B : Nat) (h : Sl w B v l) (hn : n ≤ 1000) :
    Calls Try.prog 15 #[v, .int .i64 n] w fun e w' => (∃ v', e = .returned v' ∧ Sl w B v' (l.take n)) ∧ w = w' := by
  obtain ⟨hl, hm, a, cap, rfl, h1, h2, hN, h3⟩ := h
  have HN := Lib.hid hN
  have H3 := Lib.hid h3
  clear hN h3
  unfold maxLen at h2
  by_cases hlt : n < l.length
  · go_enter Try.func15, Try.ntmps15
    go_wp2
    go_ret
    refine ⟨⟨_, rfl, ?_⟩, rfl⟩
    have e : (l.take n).length = n := by rw [List.length_take]; omega
    unfold Sl
    rw [e]
    refine ⟨by rw [bv_len, e, Nat.mul_one], by omega, a, cap, rfl, by omega, h2, HN.out, ?_⟩
    rcases H3.out with h | ⟨b, off, e1, hb, hc⟩
    · left
      have : l = [] := by simpa [bv] using h
      subst this
      simp [bv]
    · refine .inr ⟨b, off, e1, hb, fun i hi => ?_⟩
      rw [bv_len, e] at hi
      rw [hc i (by rw [bv_len]; omega)]
      simp [bv]
  · go_enter Try.func15, Try.ntmps15
    go_wp2
    go_ret
    refine ⟨⟨_, rfl, ?_⟩, rfl⟩
    rw [List.take_of_length_le (by omega)]
    exact ⟨hl, hm, a, cap, rfl, h1, h2, HN.out, H3.out⟩
theorem madeZero (n : Nat) : madeCells (Value.int .u8 0).cells (n * 1) = (bv (List.replicate n 0)).toArray := by
  apply Array.ext'
  apply List.ext_getElem
  · simp [madeCells, bv]
  · intro i h1 h2
    simp [madeCells, bv, Value.cells, Nat.mod_one]
theorem run_make_bytes (n : Int) (h0 : 0 ≤ n) (hn : n ≤ 1000) (W : World) : (Instr.makeSlice 31 (.int .i64 n) (.int .i64 n)).run Try.prog W = .ok (.slice (some ⟨W.heap.size, 0, none⟩) n.toNat n.toNat) (W.alloc (.cells (bv (List.replicate n.toNat 0)).toArray 5)) := by
  obtain ⟨i0, hi, hz0, hz1, hz2⟩ := info_parts info5
  have h := run_make (P := Try.prog) W 31 5 i0 (.int .u8 0) Try.underlying31 hi hz0 .i64 .i64 n n (by omega) (by omega) (by rw [hz2]; omega) (by omega)
  rw [hz1, madeZero] at h
  exact h
theorem str_app (a b : List UInt8) : str a ++ str b = str (a ++ b) := by
  have h : ∀ x y : ByteArray, (x ++ y).data = x.data ++ y.data := fun x y => ByteArray.data_append ..
  have : (str a ++ str b).data = (str (a ++ b)).data := by
    rw [h]
    simp [str]
  cases h1 : str a ++ str b
  rw [h1] at this
  exact congrArg ByteArray.mk this
theorem str_size (a : List UInt8) : (str a).size = a.length := by simp [str, ByteArray.size]
theorem inc8 (c : UInt8) : ((c.toNat : Int) + 1) % 256 = ((c + 1).toNat : Int) := by
  simp [UInt8.toNat_add]
theorem own_d (l : List UInt8) (hl : l.length ≤ 64) : (fresh 2).writes 0 l = { (fresh 2).burned with secs := [zeroSec.put l, zeroSec] } := by
  have : (fresh 2).wcode 0 l.length = 0 := by
    unfold DM.wcode
    rw [if_neg (by decide), if_neg (by decide), if_neg (by omega)]
  unfold DM.writes
  rw [if_pos this]
  rfl

theorem Bl.sl {w : World} {b : Nat} {l : List UInt8} (h : Bl w b 5 (bv l)) (hl : l.length ≤ 1000000) : Sl w w.heap.size (.slice (some ⟨b, 0, none⟩) l.length l.length) l := by
  have := Bl.sv (B := w.heap.size) h 1 0 l.length l.length h.lt (by rw [bv_len]; omega) (Nat.le_refl _) (by unfold maxLen; omega)
  rw [List.drop_zero, Nat.mul_one, List.take_of_length_le (by rw [bv_len]; exact Nat.le_refl _)] at this
  exact this
set_option maxHeartbeats 1000000 in
theorem devOwn_walk (w : World) {vb : Value} {lb : List UInt8} (h : Sl w w.heap.size vb lb) :
    Calls Try.prog 4 #[vb] w fun e w' => e = .returned (.bool true) ∧ Below w.heap.size w w' := by
  have HV := Lib.hid h
  clear h
  go_enter Try.func4, Try.ntmps4
  go_wp2_with (fail)
  refine (begun_c w).mono ?_
  rintro e w1 ⟨rfl, bel⟩
  have B1 := Lib.hid bel
  have hz1 := bel.size
  clear bel
  go_wp2_with (fail)
  refine (short_c vb lb 64 w1 w.heap.size (HV.out.below (Nat.le_refl _) B1.out (Nat.le_refl _)) (by decide)).mono ?_
  rintro e w' ⟨⟨v1, rfl, h1⟩, rfl⟩
  have HL := Lib.hid (List.length_take_le 64 lb)
  generalize lb.take 64 = l at *
  have hl : l.length ≤ 64 := HL.out
  have H1 := Lib.hid h1
  clear h1 HL
  go_wp2_with (at_builtin; refine wpList_app (.const (.slice none 0 0)) (.tmp 17) 31 rfl rfl w1.heap.size 5 (.int .u8 0) 1 Try.underlying31 info5 rfl (.slice none 0 0) 0 [] rfl ⟨rfl, .inl ⟨rfl, rfl⟩⟩ _ l.length w.heap.size (bv l) rfl H1.out (bv_one _) ?a5 ?a6 (Nat.le_refl _) ?_)
  case a5 => unfold maxLen; omega
  case a6 => omega
  intro v2 w2 own2 g2
  have B2 := Lib.hid (B1.out.grown g2 hz1 (by simp [Value.ownBlock]))
  have hz2 := g2.size
  obtain ⟨a2, c2, rfl⟩ := own_form own2
  have O2 := Lib.hid own2
  clear own2 g2
  go_wp2_with (fail)
  refine (new_m w2 2).mono ?_
  rintro e w3 ⟨⟨p, b, rfl, hp, hb, hD⟩, bel3⟩
  change DevAt w3 p b (fresh 2) at hD
  have HD := Lib.hid hD
  have O3 := Lib.hid (ownsRow_fr O2.out (Fr.of_below bel3) (by simp))
  have B3 := Lib.hid (B2.out.trans (bel3.mono (by omega)))
  have hz3 := bel3.size
  clear hD bel3
  go_wp2_with (fail)
  refine (write_any w3 p b _ HD.out (by decide) 0 _ _ l (Sl.of_own O3.out)).mono ?_
  rintro e w4 ⟨rfl, hD4, f4⟩
  rw [own_d l hl] at hD4
  generalize (fresh 2).wcode 0 l.length = c4 at *
  have HD4 := Lib.hid hD4
  have hne4 : ∀ k, (Value.slice a2 l.length c2).ownBlock = some k → k ∉ [p, b] := fun k hk => by
    have := (O2.out.lt k hk).2
    simp; omega
  have O4 := Lib.hid (ownsRow_fr O3.out f4 hne4)
  have B4 := Lib.hid (B3.out.trans (f4.below (B := w.heap.size) (by omega) (by simp; omega)))
  have hz4 := f4.size
  clear hD4 f4 hne4
  go_upto_region 7 with (fail)
  obtain ⟨z, hz⟩ : ∃ z : Nat, 64 - l.length = z := ⟨_, rfl⟩
  have hzi : (64 : Int) - (l.length : Int) = (z : Int) := by omega
  have o1 : w4.drew.ownsRow w1.heap.size 5 1 (.slice a2 l.length c2) l.length (bv l) := O4.out
  have o2 : (w4.alloc (.cells (bv (List.replicate z 0)).toArray 5)).drew.ownsRow w1.heap.size 5 1 (.slice a2 l.length c2) l.length (bv l) := O4.out.alloc _
  have cs1 := Sl.str (Sl.of_own o1)
  have cs2 := Sl.str (Sl.of_own o2)
  clear o1 o2
  have hmk := run_make_bytes (z : Int) (by omega) (by omega)
  rw [Int.toNat_natCast] at hmk
  have cs3 := Sl.str ((Bl.new w4 5 (bv (List.replicate z 0))).drew.sl (by simp; omega))
  rw [List.length_replicate] at cs3
  have ha := str_app l (List.replicate z 0)
  have hs1 := str_size l
  have hs2 := str_size (List.replicate z 0)
  rw [List.length_replicate] at hs2
  go_cut [5] (fun s5 wx => s5 = .string (str (l ++ List.replicate z 0)) ∧ DevAt wx p b { (fresh 2).burned with secs := [zeroSec.put l, zeroSec] } ∧ wx.ownsRow w1.heap.size 5 1 (.slice a2 l.length c2) l.length (bv l) ∧ Below w.heap.size w wx ∧ w4.heap.size ≤ wx.heap.size)
  case first =>
    go_region
    go_wp2_with fail
    go_meet
    exact ⟨rfl, HD4.out.fr (((Fr.refl [] _).alloc _).drew) (by simp) (by simp), O4.out.alloc _, (B4.out.alloc (by omega) _).drew, by simp⟩
  case rest =>
    obtain ⟨rfl, hD5, own5, bel5, hz5⟩ := hcut
    have HD5 := Lib.hid hD5
    have O5 := Lib.hid own5
    have B5 := Lib.hid bel5
    have hpa : ∀ k, (Value.slice a2 l.length c2).ownBlock = some k → w1.heap.size ≤ k ∧ k < p ∧ k < b := fun k hk => by
      have h1 := (O2.out.lt k hk)
      omega
    have HPA := Lib.hid hpa
    clear cs1 cs2 cs3 hmk ha hs1 hs2 hD5 own5 bel5 hpa
    go_wp2_with (fail)
    go_loopg [6, 33] l.length (fun q _ i wr => ∃ (k : Nat) (l' : List UInt8), k + q = l.length ∧ l'.length = l.length ∧ i = .int .i64 (k : Int) ∧ DevAt wr p b { (fresh 2).burned with secs := [zeroSec.put l, zeroSec] } ∧ wr.ownsRow w1.heap.size 5 1 (.slice a2 l.length c2) l.length (bv l') ∧ Below w.heap.size w wr)
    case atStart => exact ⟨0, l, by omega, rfl, rfl, HD5.out, O5.out, B5.out⟩
    case round =>
      obtain ⟨k, l', hk, hl', rfl, hD, own, bel⟩ := hrel
      by_cases hlt : k < l.length
      · have own' := own
        obtain ⟨_, ⟨_, h0⟩ | ⟨g, cap, cur, e1, hg, _⟩⟩ := own'
        · omega
        injection e1 with e1 e2 e3
        subst e1 e3
        have c0 := own.cellAt k (by omega)
        have e0 : (bv l')[k]? = some (.int .u8 (l'[k]'(by omega)).toNat) := by
          rw [bv, List.getElem?_map, List.getElem?_eq_getElem (by omega)]; rfl
        rw [e0] at c0
        have f0 := own.frozenAt k
        have hst := (own.stored k (.int .u8 ((l'[k]'(by omega)) + 1).toNat)).1
        have e2 : (bv l').set k (.int .u8 ((l'[k]'(by omega)) + 1).toNat) = bv (l'.set k ((l'[k]'(by omega)) + 1)) := by simp [bv, List.map_set]
        rw [e2] at hst
        have hinc := inc8 (l'[k]'(by omega))
        have HST := Lib.hid hst
        have HDD := Lib.hid (hD.fr ((Fr.refl [g] wr).setCell (p := ⟨g, k, none⟩) (by simp) (.int .u8 ((l'[k]'(by omega)) + 1).toNat)) (by have := HPA.out g rfl; simp; omega) (by have := HPA.out g rfl; simp; omega))
        have BB := Lib.hid (bel.setCell (p := ⟨g, k, none⟩) (by have := HPA.out g rfl; simp; omega) (.int .u8 ((l'[k]'(by omega)) + 1).toNat))
        clear own hD bel e0 e2 hst
        generalize l'[k]'(by omega) = y at *
        generalize y + 1 = y' at *
        go_wp2_with (fail)
        go_roundg (l.length - (k + 1))
        case measure => omega
        case rel => exact ⟨k + 1, _, by omega, by simpa using hl', by go_num, HDD.out, HST.out, BB.out⟩
      · have hke : (l.length : Int) ≤ (k : Int) := by omega
        have HD := Lib.hid hD
        have BEL := Lib.hid bel
        have hz6 := bel.size
        have hnow : Hid (({ (fresh 2).burned with secs := [zeroSec.put l, zeroSec] } : DM).secs[0]? = some (zeroSec.put l)) := rfl
        have hput : Hid ((zeroSec.put l).now = l ++ List.replicate z 0) := by
          show l ++ (List.replicate 64 0).drop l.length = _
          rw [List.drop_replicate, hz]
        have hll : Hid (({ (fresh 2).burned with secs := [zeroSec.put l, zeroSec] } : DM).loose.length = 1) := rfl
        have hcs : Hid (({ (fresh 2).burned with secs := [zeroSec.put l, zeroSec] } : DM).secs.length = 2) := rfl
        generalize ({ (fresh 2).burned with secs := [zeroSec.put l, zeroSec] } : DM) = DD at *
        clear hD bel own
        obtain ⟨wo, rfl⟩ : ∃ wo : World, wo = wr := ⟨_, rfl⟩
        go_wp2_with (fail)
        refine (read_c wo p b DD HD.out 0 (by have := hcs.out; omega)).mono ?_
        rintro e w7 ⟨⟨g3, c3, rfl, own3⟩, bel7⟩
        have h0 : DD.secs[0]'(by have := hcs.out; omega) = zeroSec.put l := by
          have := hnow.out
          rw [List.getElem?_eq_getElem (by have := hcs.out; omega)] at this
          exact Option.some.inj this
        rw [h0, hput.out] at own3
        clear h0
        have hg3 := own3.lt g3 rfl
        have HD7 := Lib.hid (HD.out.below bel7 HD.out.lt.1 HD.out.lt.2)
        have B7 := Lib.hid (BEL.out.trans (bel7.mono hz6))
        have O7 := Lib.hid own3
        have hlt7 := HD.out.lt
        have hl64 : (l ++ List.replicate z 0).length = 64 := by simp; omega
        have HL64 := Lib.hid hl64
        clear own3 bel7 hl64
        go_wp2_with (fail)
        go_loopg [9, 50] 64 (fun q _ i wr => ∃ (k : Nat) (l' : List UInt8), k + q = 64 ∧ l'.length = 64 ∧ i = .int .i64 (k : Int) ∧ DevAt wr p b DD ∧ wr.ownsRow wo.heap.size 5 1 (.slice (some ⟨g3, 0, none⟩) 64 c3) 64 (bv l') ∧ Below w.heap.size w wr)
        case atStart => exact ⟨0, _, by omega, HL64.out, rfl, HD7.out, O7.out, B7.out⟩
        case round =>
          obtain ⟨k, l', hk, hl', rfl, hD, own, bel⟩ := hrel
          by_cases hlt : k < 64
          · have c0 := own.cellAt k (by omega)
            have e0 : (bv l')[k]? = some (.int .u8 (l'[k]'(by omega)).toNat) := by
              rw [bv, List.getElem?_map, List.getElem?_eq_getElem (by omega)]; rfl
            rw [e0] at c0
            have f0 := own.frozenAt k
            have hst := (own.stored k (.int .u8 ((l'[k]'(by omega)) + 1).toNat)).1
            have e2 : (bv l').set k (.int .u8 ((l'[k]'(by omega)) + 1).toNat) = bv (l'.set k ((l'[k]'(by omega)) + 1)) := by simp [bv, List.map_set]
            rw [e2] at hst
            have hinc := inc8 (l'[k]'(by omega))
            have HST := Lib.hid hst
            have HDD := Lib.hid (hD.fr ((Fr.refl [g3] wr).setCell (p := ⟨g3, k, none⟩) (by simp) (.int .u8 ((l'[k]'(by omega)) + 1).toNat)) (by simp; omega) (by simp; omega))
            have BB := Lib.hid (bel.setCell (p := ⟨g3, k, none⟩) (by simp; omega) (.int .u8 ((l'[k]'(by omega)) + 1).toNat))
            clear own hD bel e0 e2 hst
            generalize l'[k]'(by omega) = y at *
            generalize y + 1 = y' at *
            go_wp2_with (fail)
            go_roundg (64 - (k + 1))
            case measure => omega
            case rel => exact ⟨k + 1, _, by omega, by simpa using hl', by go_num, HDD.out, HST.out, BB.out⟩
          · have hke2 : 64 ≤ (k : Int) := by omega
            have HD := Lib.hid hD
            have BEL := Lib.hid bel
            have hz8 := bel.size
            clear hD bel own
            go_wp2_with (fail)
            have hkeep := (Bl.new wr 4 [.bool true]).sv (B := wr.heap.size + 1) 1 0 1 1 (by omega) (by simp) (Nat.le_refl _) (by simp [maxLen])
            have hD9 : DevAt (wr.alloc (.cells #[.bool true] 4)) p b DD := HD.out.fr ((Fr.refl [] _).alloc _) (by simp) (by simp)
            refine (crash_c _ p b _ hD9 (wr.heap.size + 1) _ [true] hkeep (by simp)).mono ?_
            rintro e w9 ⟨⟨p2, b2, rfl, hp2, hb2, hF⟩, bel9⟩
            simp only [size_alloc] at hp2 hb2 bel9
            have bel9' : Below wr.heap.size wr w9 := ((Below.refl _ _).alloc (Nat.le_refl _) _).trans (bel9.mono (by omega))
            have HD9 := Lib.hid (HD.out.below bel9' HD.out.lt.1 HD.out.lt.2)
            have HF := Lib.hid hF
            have B9 := Lib.hid (BEL.out.trans (bel9'.mono (by omega)))
            have hz9 := bel9'.size
            have hltd := HD.out.lt
            clear hkeep hD9 hF bel9 bel9'
            have hec : Hid ((DD.crash [true]).calls = 0) := rfl
            generalize DD.crash [true] = EE at *
            go_wp2_with (fail)
            refine (write_any _ p2 b2 EE (HF.out.fr ((Fr.refl [] _).alloc _) (by simp) (by simp)) (by rw [hec.out]; omega) 0 _ _ [1, 2, 3] (Sl.new w9 [1, 2, 3] (0, 0) 3 (by simp) (by simp [maxLen]))).mono ?_
            rintro e w10 ⟨rfl, _, f10⟩
            have HD10 := Lib.hid ((HD9.out.fr ((Fr.refl [] _).alloc _) (by simp) (by simp)).fr f10 (by simp; omega) (by simp; omega))
            have B10 := Lib.hid ((B9.out.alloc (by omega) _).trans (f10.below (B := w.heap.size) (by simp; omega) (by simp; omega)))
            have hz10 := f10.size
            simp only [size_alloc] at hz10
            generalize EE.wcode 0 ([1, 2, 3] : List UInt8).length = c10 at *
            clear f10
            go_wp2_with (fail)
            refine (read_c w10 p b DD HD10.out 0 (by have := hcs.out; omega)).mono ?_
            rintro e w11 ⟨⟨g4, c4', rfl, own4⟩, bel11⟩
            have h0 : DD.secs[0]'(by have := hcs.out; omega) = zeroSec.put l := by
              have := hnow.out
              rw [List.getElem?_eq_getElem (by have := hcs.out; omega)] at this
              exact Option.some.inj this
            rw [h0, hput.out] at own4
            have cs := Sl.str (Sl.of_own own4)
            have hq : (str (l ++ List.replicate z 0) == str (l ++ List.replicate z 0)) = true := by rw [str_beq]; simp
            have HD11 := Lib.hid (HD10.out.below bel11 HD10.out.lt.1 HD10.out.lt.2)
            have B11 := Lib.hid (B10.out.trans (bel11.mono (by omega)))
            have hz11 := bel11.size
            clear own4 bel11 h0
            generalize str (l ++ List.replicate z 0) = S at *
            go_wp2_with (fail)
            refine (loose_c w11 p b DD HD11.out).mono ?_
            rintro e w12 ⟨⟨v, rfl, own⟩, bel12⟩
            rw [hll.out] at own
            obtain ⟨a, cap, rfl⟩ := own_form own
            have B12 := Lib.hid (B11.out.trans (bel12.mono (by omega)))
            clear own bel12
            go_wp2_with (fail)
            go_ret
            exact ⟨rfl, B12.out⟩
end Go.Proofs.Ytchibinlcedjaaa
