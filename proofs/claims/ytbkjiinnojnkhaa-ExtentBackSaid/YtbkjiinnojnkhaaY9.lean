import Derived.Test.YtbkjiinnojnkhaaY8
import Derived.Deep.RegionLaw
namespace Go.Proofs.Ytbkjiinnojnkhaa
open Go.RowKit
def toSp (s : Nat × Nat) : Int × Int := (5 + (s.1 : Int), (s.2 : Int))
theorem RoomAt.below {B : Nat} {w w' : World} {p b cap : Nat} {ex : List Value} {at_ : Int} {free : List Bool} (h : RoomAt w p b cap ex at_ free) (f : Below B w w') (hp : p < B) (hb : b < B) : RoomAt w' p b cap ex at_ free :=
  ⟨h.head.below f hp, h.row.below f hb, h.lo, h.hi, h.len, h.le, h.cap⟩
set_option maxHeartbeats 4000000 in
theorem extentBack_walk (w : World) {v v1 : Value} {lw lo : List Int} (hv : Si w w.heap.size v lw) (hv1 : Si w w.heap.size v1 lo) :
    Calls Try.prog 4 #[v, v1] w fun e w' => e = .returned (.bool true) ∧ Below w.heap.size w w' := by
  obtain ⟨va, vc, rfl, hvl⟩ := hv.1.form
  obtain ⟨ua, uc, rfl, hul⟩ := hv1.1.form
  have HSI := Lib.hid hv
  have HSO := Lib.hid hv1
  clear hv hv1
  go_enter Try.func4, Try.ntmps4
  go_wp2_with (fail)
  refine (begun_c w).mono ?_
  rintro e w1 ⟨rfl, bel⟩
  have B1 := Lib.hid bel
  have z1 := bel.size
  clear bel
  go_wp2_with (fail)
  refine (new_c w1 5 200 (by omega) (by omega) (by omega) (by omega)).mono ?_
  rintro e w2 ⟨⟨p, q, rfl, hp, hq, hr⟩, bel⟩
  rw [show Int.toNat 200 = 200 from rfl, rg_true] at hr
  have R2 := Lib.hid hr
  have B2 := Lib.hid (B1.out.trans (bel.mono z1))
  have z2 := bel.size
  have hq2 : q < w2.heap.size := hr.row.lt
  have hp2 : p < w2.heap.size := hr.head.lt
  clear hr bel
  go_wp2_with (fail)
  go_loopg [7, 8, 9, 10] lw.length (fun qq l i _ _ wr => ∃ (k : Nat) (f : Nat → Bool) (L : List (Nat × Nat)), k + qq = lw.length ∧ (k ≤ 30 ∧ L.length ≤ k) ∧ i = .int .i64 (k : Int) ∧ Out 200 f L ∧ wr.ownsRow w2.heap.size 30 2 l L.length (spCells (L.map toSp)) ∧ RoomAt wr p q 200 [] 5 (rg 200 f) ∧ Below w.heap.size w wr ∧ w2.heap.size ≤ wr.heap.size)
  case atStart => exact ⟨0, fun _ => true, [], by omega, by simp, rfl, out_start 200, ⟨rfl, .inl ⟨rfl, rfl⟩⟩, R2.out, B2.out, Nat.le_refl _⟩
  case round =>
    obtain ⟨k, f, L, hk, hk30, rfl, ho, own, hr, bel, hw2⟩ := hrel
    have hqw : w.heap.size ≤ q := by omega
    obtain ⟨l1, l2, rfl⟩ := own_form own
    by_cases hlt : k < lw.length ∧ k < 30
    · obtain ⟨hlt, h30⟩ := hlt
      obtain ⟨wb, wo, rfl, hwb, hwc⟩ := HSI.out.1.at_ (by rw [iv_len]; omega)
      have kc := hwc k (by rw [iv_len]; exact hlt)
      rw [← bel.cell (p := ⟨wb, wo + k, none⟩) hwb] at kc
      have e : (iv lw)[k]'(by rw [iv_len]; exact hlt) = .int .i64 lw[k] := by simp [iv]
      rw [e] at kc
      obtain ⟨z, hz, hz1, hz2⟩ := mod20 lw[k]
      generalize lw[k] = x at *
      have i4 : (k : Int) < (lw.length : Int) := by omega
      have i5 : (k : Int) < 30 := by omega
      obtain ⟨m, hm, hm1⟩ : ∃ m : Nat, 1 + z % 20 = (m : Int) ∧ (1 ≤ m ∧ m ≤ 20) := ⟨(1 + z % 20).toNat, by omega, by omega⟩
      have R := Lib.hid hr
      have BE := Lib.hid bel
      have HO := Lib.hid ho
      have OWN := Lib.hid own
      clear hwc e hr bel ho own
      go_wp2_with (fail)
      refine (take_c wr p q 200 [] 5 (rg 200 f) R.out (m : Int) (by omega)).mono ?_
      intro e w3 hpost
      cases ht : taken 5 (rg 200 f) (m : Int) with
      | none =>
        obtain ⟨rfl, hr, fr⟩ := take_none hpost ht
        have O3 := Lib.hid (ownsRow_fr OWN.out fr (fun j hj => by have := own_ge OWN.out hj (Nat.le_refl _); simp; omega))
        have R3 := Lib.hid hr
        have B3 := Lib.hid (BE.out.trans (fr.below (B := w.heap.size) BE.out.size (by simpa using hqw)))
        have z3 : w2.heap.size ≤ w3.heap.size := Nat.le_trans hw2 fr.size
        clear hr fr hpost ht
        go_wp2_with (fail)
        go_roundg (lw.length - (k + 1))
        case measure => omega
        case rel =>
          have ff : Fr [] w3 (w3.alloc (.cells #[.int .i64 0, .int .i64 0] 30)) := (Fr.refl _ _).alloc _
          exact ⟨k + 1, f, L, by omega, by omega, by go_num, HO.out, ownsRow_fr O3.out ff (by simp), R3.out.fr ff (by simp) (by simp), B3.out.alloc B3.out.size _, by simp; omega⟩
      | some s =>
        obtain ⟨rfl, hr, fr⟩ := take_some hpost ht
        obtain ⟨i, hs1, hs2, hout, hset⟩ := out_take HO.out 5 m hm1.1 ht
        rw [hset] at hr
        rw [hs1]
        have ff : Fr [] w3 (w3.alloc (.cells #[.int .i64 (5 + (i : Int)), .int .i64 (m : Int)] 30)) := (Fr.refl _ _).alloc _
        have hvar : Bl (w3.alloc (.cells #[.int .i64 (5 + (i : Int)), .int .i64 (m : Int)] 30)) w3.heap.size 30 [.int .i64 (5 + (i : Int)), .int .i64 (m : Int)] := Bl.new _ _ _
        have hown := ownsRow_fr (ownsRow_fr OWN.out fr (fun j hj => by have := own_ge OWN.out hj (Nat.le_refl _); simp; omega)) ff (by simp)
        have hb3 := BE.out.trans (fr.below (B := w.heap.size) BE.out.size (by simpa using hqw))
        have hb4 := hb3.alloc hb3.size (.cells #[.int .i64 (5 + (i : Int)), .int .i64 (m : Int)] 30)
        have hr4 := hr.fr ff (by simp) (by simp)
        have z3 : w2.heap.size ≤ w3.heap.size := Nat.le_trans hw2 fr.size
        have z4 := ff.size
        go_upto_region 11 with (fail)
        generalize w3.alloc (.cells #[.int .i64 (5 + (i : Int)), .int .i64 (m : Int)] 30) = w4 at *
        have c0 : w4.cell? ⟨w3.heap.size, 0, none⟩ = some (.int .i64 (5 + (i : Int))) := hvar.cell 0
        have c1 : w4.cell? ⟨w3.heap.size, 1, none⟩ = some (.int .i64 (m : Int)) := hvar.cell 1
        have O4 := Lib.hid hown
        have R4 := Lib.hid hr4
        have B4 := Lib.hid hb4
        have HOUT := Lib.hid hout
        clear hown hr4 hb4 hb3 hr fr ff hvar hpost ht hs1 hset hout
        go_wp2_with (at_builtin; refine wpList_app2 (.tmp 42) (.tmp 44) 37 rfl rfl w2.heap.size 30 (.agg #[.int .i64 0, .int .i64 0]) 16 und37 info30 rfl _ L.length (spCells (L.map toSp)) rfl (O4.out.alloc _) w4.heap.size 1 _ _ rfl (Bl.new _ _ _) ⟨rfl, rfl⟩ (by unfold maxLen; omega) (by omega) (by simp; omega) ?_)
        intro v5 w5 own5 g5
        have ff5 : Fr [] w4 (w4.alloc (.cells #[.int .i64 (5 + (i : Int)), .int .i64 (m : Int)] 30)) := (Fr.refl _ _).alloc _
        have hq5 : q < w4.heap.size := R4.out.row.lt
        have hp5 : p < w4.heap.size := R4.out.head.lt
        have O5 := Lib.hid own5
        have B5 := Lib.hid ((B4.out.alloc B4.out.size (.cells #[.int .i64 (5 + (i : Int)), .int .i64 (m : Int)] 30)).grown g5 (by have := B4.out.size; simp; omega) (fun j hj => by have := own_ge O4.out hj (Nat.le_refl _); omega))
        have bb : Below w2.heap.size w4 w5 := ((Below.refl w2.heap.size w4).alloc (by omega) (.cells #[.int .i64 (5 + (i : Int)), .int .i64 (m : Int)] 30)).grown g5 (by simp; omega) (fun j hj => own_ge O4.out hj (Nat.le_refl _))
        have R5 := Lib.hid (R4.out.below bb hp2 hq2)
        have z5 : w4.heap.size ≤ w5.heap.size := bb.size
        clear own5 g5 ff5 bb c0 c1
        go_wp2_with (fail)
        go_roundg (lw.length - (k + 1))
        case measure => omega
        case rel =>
          refine ⟨k + 1, put f i m false, L ++ [(i, m)], by omega, by simp; omega, by go_num, HOUT.out, ?_, R5.out, B5.out, by omega⟩
          have e1 : spCells ((L ++ [(i, m)]).map toSp) = spCells (L.map toSp) ++ [.int .i64 (5 + (i : Int)), .int .i64 (m : Int)] := by
            rw [List.map_append, spCells_app]; rfl
          rw [e1, List.length_append]
          exact O5.out
    · have hrd : Rd wr (.slice l1 L.length l2) (L.map toSp) := Rd.own (base := w2.heap.size) (by rw [List.length_map]; exact own)
      have R := Lib.hid hr
      have BE := Lib.hid bel
      have HO := Lib.hid ho
      have RD := Lib.hid hrd
      have h1 : k < lw.length ∨ lw.length ≤ k := by omega
      clear hr bel ho own hrd
      obtain ⟨wo, rfl⟩ : ∃ wo : World, wo = wr := ⟨_, rfl⟩
      rcases h1 with h1 | h1
      all_goals
        go_wp2_with (fail)
        go_loopg [7, 11, 12] L.length (fun qq l i _ wr => ∃ (j : Nat) (f : Nat → Bool) (M : List (Nat × Nat)), M.length = qq ∧ j + M.length ≤ 30 ∧ i = .int .i64 (j : Int) ∧ Out 200 f M ∧ Rd wr l (M.map toSp) ∧ RoomAt wr p q 200 [] 5 (rg 200 f) ∧ Below w.heap.size w wr)
        case atStart => exact ⟨0, f, L, rfl, by omega, rfl, HO.out, RD.out, R.out, BE.out⟩
        case round =>
          obtain ⟨j, f2, M, hM, hj, rfl, ho, hrd, hr, bel⟩ := hrel
          obtain ⟨l3, l4, rfl, hl1, hl2, hl3⟩ := hrd
          rw [List.length_map] at hl1 hl3
          rw [List.length_map]
          have hqw : w.heap.size ≤ q := by omega
          rcases Nat.eq_zero_or_pos M.length with hM0 | hM0
          · have hMn : M = [] := List.eq_nil_of_length_eq_zero hM0
            subst hMn
            have hend := out_end ho
            rw [hend] at hr
            have R6 := Lib.hid hr
            have B6 := Lib.hid bel
            clear ho hr bel hl3 hend
            go_wp2_with (fail)
            refine (spans_c wr p _ 5 _ R6.out.r).mono ?_
            rw [all200]
            rintro e w6 ⟨⟨v', rfl, own⟩, bel⟩
            obtain ⟨_, ⟨_, h0⟩ | ⟨g, cap4, cur, rfl, hg, _⟩⟩ := id own
            · exact absurd h0 (by decide)
            have R7 := Lib.hid (R6.out.fr (Fr.of_below bel) (by simp) (by simp))
            have B7 := Lib.hid (B6.out.trans (bel.mono B6.out.size))
            have O7 := Lib.hid own
            clear own bel
            go_wp2_with (fail)
            refine (free_c w6 p _ 5 _ R7.out.r).mono ?_
            rw [count200]
            rintro e w7 ⟨rfl, bel⟩
            have O8 := Lib.hid (ownsRow_fr O7.out (Fr.of_below bel) (by simp))
            have B8 := Lib.hid (B7.out.trans (bel.mono B7.out.size))
            clear bel
            have e0 : w7.cell? ⟨g, 0, none⟩ = some (.int .i64 5) := O8.out.cellAt 0 (by decide)
            have e1 : w7.cell? ⟨g, 1, none⟩ = some (.int .i64 200) := O8.out.cellAt 1 (by decide)
            go_wp2_with (fail)
            go_ret
            exact ⟨rfl, B8.out⟩
          · obtain ⟨b, off, cs, rfl, hb, hcs⟩ := hl3 (by intro h; rw [List.map_eq_nil_iff] at h; subst h; simp at hM0)
            have hgt : (M.length : Int) > 0 := by omega
            have hKs : ∃ K : Nat, K < M.length ∧ (((lo.length : Int) ≤ (j : Int) ∧ K = 0) ∨ ((j : Int) < (lo.length : Int) ∧ ∃ (x y : Int), ∃ ub uo, ua = some ⟨ub, uo, none⟩ ∧ wr.cell? ⟨ub, uo + j, none⟩ = some (.int .i64 x) ∧ x.tmod (M.length : Int) = y ∧ (-(M.length : Int) < y ∧ y < M.length) ∧ y % (M.length : Int) = (K : Int) ∧ (y + (M.length : Int)) % (M.length : Int) = (K : Int) ∧ (y + (M.length : Int)).tmod (M.length : Int) = (K : Int))) := by
              by_cases hjl : j < lo.length
              · obtain ⟨ub, uo, rfl, hub, huc⟩ := HSO.out.1.at_ (by rw [iv_len]; omega)
                have uc2 := huc j (by rw [iv_len]; exact hjl)
                rw [← bel.cell (p := ⟨ub, uo + j, none⟩) hub] at uc2
                have e : (iv lo)[j]'(by rw [iv_len]; exact hjl) = .int .i64 lo[j] := by simp [iv]
                rw [e] at uc2
                obtain ⟨y, K, h1, h2, h3, h4, h5, h6⟩ := modn lo[j] M.length hM0
                exact ⟨K, h6, .inr ⟨by omega, _, y, ub, uo, rfl, uc2, h1, h2, h3, h4, h5⟩⟩
              · exact ⟨0, hM0, .inl ⟨by omega, rfl⟩⟩
            obtain ⟨K, hK, hKc⟩ := hKs
            have hsplit : M = M.take K ++ (M[K].1, M[K].2) :: M.drop (K + 1) := by
              conv => lhs; rw [← List.take_append_drop K M, List.drop_eq_getElem_cons hK]
            have hcell : ∀ W : World, Bl W b 30 cs → W.cell? ⟨b, off + K * 2, none⟩ = some (.int .i64 (5 + (M[K].1 : Int))) ∧ W.cell? ⟨b, off + K * 2 + 1, none⟩ = some (.int .i64 (M[K].2 : Int)) := fun W hW => by
              have h3 := spCells_get (M.map toSp) K (by rw [List.length_map]; exact hK)
              rw [List.getElem_map] at h3
              rw [hW.cell, hW.cell, Nat.add_assoc, hcs _ (by omega), hcs _ (by omega)]
              exact h3
            have ho' := ho
            rw [hsplit] at ho'
            obtain ⟨g1, g2, g3, g4⟩ := out_give ho' 5
            have hgive := ho'.give
            have hin := ho'.win
            have hlen2 : (M.take K ++ M.drop (K + 1)).length = M.length - 1 := by simp; omega
            generalize hi : M[K].1 = i at *
            generalize hn : M[K].2 = n at *
            have hbq : b ≠ q := hb.ne hr.row (by decide)
            obtain ⟨c0, c1⟩ := hcell wr hb
            have HB := Lib.hid hb
            have R := Lib.hid hr
            have BE := Lib.hid bel
            have G1 := Lib.hid g1
            have G2 := Lib.hid g2
            have G3 := Lib.hid g3
            have G4 := Lib.hid g4
            have HG := Lib.hid hgive
            have HCS := Lib.hid hcs
            have HCELL := Lib.hid hcell
            have hin1 := hin.1
            have hin2 := hin.2.1
            clear hb hr bel g1 g2 g3 g4 hgive hcs hcell hin ho ho' hsplit hi hn
            have HMq := Lib.hid hM
            clear hM hl3
            go_upto_if 54 with (fail)
            go_cut [12] (fun s12 wx => s12 = .int .i64 (K : Int) ∧ wr = wx)
            case first =>
              rcases hKc with ⟨k1, k2⟩ | ⟨k1, x, y, ub, uo, rfl, uc, m1, m2, m3, m4, m5⟩
              · have d1 : decide ((j : Int) < (lo.length : Int)) = false := by simp; omega
                clear c0 c1
                go_wp2_with (fail)
                go_meet
                exact ⟨by rw [k2]; rfl, rfl⟩
              · have d1 : decide ((j : Int) < (lo.length : Int)) = true := by simp; omega
                clear c0 c1
                go_wp2_with (fail)
                go_meet
                exact ⟨by first | rfl | (congr 1), rfl⟩
            case rest =>
              obtain ⟨rfl, rfl⟩ := hcut
              clear hKc
              go_wp2_with (fail)
              refine (give_c wr p q 200 [] 5 (rg 200 f2) R.out (5 + (i : Int)) (n : Int) (by omega) (by omega)).mono ?_
              rintro e w4 ⟨rfl, hr, fr⟩
              rw [G1.out]
              rw [G2.out] at hr
              have R4 := Lib.hid hr
              have HB4 := Lib.hid (HB.out.fr fr (by simpa using hbq))
              have B4 := Lib.hid (BE.out.trans (fr.below (B := w.heap.size) BE.out.size (by simpa using hqw)))
              obtain ⟨c2, c3⟩ := HCELL.out w4 HB4.out
              clear hr fr c0 c1
              go_wp2_with (fail)
              refine (give_c w4 p q 200 [] 5 _ R4.out (5 + (i : Int)) (n : Int) (by omega) (by omega)).mono ?_
              rintro e w5 ⟨rfl, hr, fr⟩
              rw [G3.out]
              rw [G4.out] at hr
              have R5 := Lib.hid hr
              have HB5 := Lib.hid (HB4.out.fr fr (by simpa using hbq))
              have B5 := Lib.hid (B4.out.trans (fr.below (B := w.heap.size) B4.out.size (by simpa using hqw)))
              clear hr fr c2 c3
              have r1 := run_head b off K M.length l4 (by omega)
              have htk : (M.take K).length = K := by simp; omega
              have hdr : (M.drop (K + 1)).length = M.length - (K + 1) := by simp
              obtain ⟨i0, hi0, hz0, hz1, hz2⟩ := info_parts info30
              have hbd : ((K : Int) + 1) ≤ 9223372036854775807 ∧ -9223372036854775808 ≤ (K : Int) + 1 := by omega
              have hwe := add_in (a := (K : Int)) (b := 1) ⟨hbd.2, hbd.1⟩
              have hj5 : (j : Int) + 1 ≤ 40 := by omega
              by_cases hlast : K + 1 = M.length
              · obtain ⟨ax, r2⟩ := run_rest_nil b off M.length l4
                have r3 : ∀ W, (Instr.slice 37 (.slice (some ⟨b, off, none⟩) M.length l4) (some (.int .i64 ((K : Int) + 1))) none none).run Try.prog W = .ok (.slice ax 0 (l4 - M.length)) W := fun W => by
                  rw [show (K : Int) + 1 = ((M.length : Nat) : Int) by omega]
                  exact r2 W hl1
                have hM' : M.take K ++ M.drop (K + 1) = M.take K := by rw [List.drop_of_length_le (by omega), List.append_nil]
                have HRD : Rd w5.drew (.slice (some ⟨b, off, none⟩) K K) ((M.take K).map toSp) := by
                  refine ⟨some ⟨b, off, none⟩, K, by rw [List.length_map, htk], by rw [List.length_map, htk]; exact Nat.le_refl _, by omega, fun _ => ⟨b, off, cs, rfl, HB5.out.drew, fun t ht => ?_⟩⟩
                  rw [List.length_map, htk] at ht
                  rw [List.map_take, spCells_take, List.getElem?_take, if_pos ht]
                  exact HCS.out t (by omega)
                have HRDq := Lib.hid HRD
                have HSRC := Lib.hid (src_nil w5.drew ax (l4 - M.length) i0.size)
                rw [hM'] at HG
                have HM' := Lib.hid htk
                clear r2 HRD hM' htk hdr hlen2
                go_wp2_with (fail)
                go_region_law (refine step_append_nothing rfl (.tmp 86) (.tmp 90) 37 rfl 30 i0 und37 hi0 (some ⟨b, off, none⟩) K K (Nat.le_refl _) (by simp [Act.eval, Act.put]) ax (l4 - M.length) (by simp [Act.eval, Act.put]) HSRC.out ?_)
                all_goals
                  go_wp2_with (fail)
                  go_roundg K
                  case measure => have := HMq.out; omega
                  case rel => exact ⟨j + 1, _, M.take K, HM'.out, by rw [HM'.out]; omega, by go_num, HG.out, HRDq.out, R5.out.fr ((Fr.refl [] _).drew) (by simp) (by simp), B5.out.drew⟩
              · have r3 : ∀ W, (Instr.slice 37 (.slice (some ⟨b, off, none⟩) M.length l4) (some (.int .i64 ((K : Int) + 1))) none none).run Try.prog W = .ok (.slice (some ⟨b, off + (K + 1) * 2, none⟩) (M.length - (K + 1)) (l4 - (K + 1))) W := fun W => by
                  rw [show (K : Int) + 1 = ((K + 1 : Nat) : Int) by omega]
                  exact run_rest b off (K + 1) M.length l4 (by omega) (by omega) W
                have h1 : (spCells ((M.take K).map toSp)).length = K * 2 := by rw [spCells_len, List.length_map, htk]
                have h2 : ∀ b', some (⟨b, off, none⟩ : Addr) = some b' → ∀ (t : Nat) (u : Value), (spCells ((M.take K).map toSp))[t]? = some u → w5.drew.cell? (b'.add t) = some u := by
                  rintro b' e t u ht
                  cases e
                  obtain ⟨ht2, _⟩ := List.getElem?_eq_some_iff.1 ht
                  rw [h1] at ht2
                  rw [add_at, HB5.out.drew.cell, HCS.out t (by omega), ← ht, List.map_take, spCells_take, List.getElem?_take, if_pos ht2]
                have h3 : (spCells ((M.drop (K + 1)).map toSp)).length = (M.length - (K + 1)) * 2 := by rw [spCells_len, List.length_map, hdr]
                have h4 : ∀ (t : Nat) (u : Value), (spCells ((M.drop (K + 1)).map toSp))[t]? = some u → w5.drew.cell? (Addr.add ⟨b, off + (K + 1) * 2, none⟩ t) = some u := by
                  intro t u ht
                  obtain ⟨ht2, _⟩ := List.getElem?_eq_some_iff.1 ht
                  rw [h3] at ht2
                  rw [add_at, HB5.out.drew.cell, Nat.add_assoc, HCS.out _ (by omega), ← ht, List.map_drop, spCells_drop, List.getElem?_drop]
                have hfull : K < K + (M.length - (K + 1)) := by omega
                have hb1 : K + (M.length - (K + 1)) ≤ maxLen := by unfold maxLen; omega
                have hb2 : (K + (M.length - (K + 1))) * 16 ≤ 140737488355328 := by omega
                have H1 := Lib.hid h1
                have H2 := Lib.hid h2
                have H3 := Lib.hid h3
                have H4 := Lib.hid h4
                have HL2 := Lib.hid hlen2
                have HFU := Lib.hid hfull
                have HBB1 := Lib.hid hb1
                have HBB2 := Lib.hid hb2
                clear h1 h2 h3 h4 htk hdr hlen2 hfull hb1 hb2
                go_wp2_with (fail)
                go_region_law (refine step_append_grows rfl (.tmp 86) (.tmp 90) 37 rfl 30 i0 (.agg #[.int .i64 0, .int .i64 0]) 2 16 und37 hi0 hz0 hz1 hz2 rfl (by decide) (some ⟨b, off, none⟩) K K (spCells ((M.take K).map toSp)) (by simp [Act.eval, Act.put]) (by simp) H1.out H2.out ⟨b, off + (K + 1) * 2, none⟩ (M.length - (K + 1)) (l4 - (K + 1)) (spCells ((M.drop (K + 1)).map toSp)) (by simp [Act.eval, Act.put]) H3.out H4.out (spCells_one _) HFU.out HBB1.out HBB2.out ?_; intro v6 w6 own6 g6; have O6 := Lib.hid own6; have GG6 := Lib.hid g6; clear own6 g6)
                all_goals
                  have own6 := O6.out
                  have bb : Below w5.heap.size w5.drew w6 := (Below.refl _ _).grown GG6.out (Nat.le_refl _) (by simp)
                  have e6 : spCells ((M.take K).map toSp) ++ spCells ((M.drop (K + 1)).map toSp) = spCells ((M.take K ++ M.drop (K + 1)).map toSp) := by rw [List.map_append, spCells_app]
                  have e7 : K + (M.length - (K + 1)) = ((M.take K ++ M.drop (K + 1)).map toSp).length := by rw [List.length_map, HL2.out]; omega
                  rw [e6, e7] at own6
                  have HRDq := Lib.hid (Rd.own own6)
                  have hq5 := R5.out.row.lt
                  have hp5 := R5.out.head.lt
                  have R6 := Lib.hid ((R5.out.fr ((Fr.refl [] _).drew) (by simp) (by simp)).below bb hp5 hq5)
                  have B6 := Lib.hid (B5.out.drew.trans (bb.mono B5.out.size))
                  clear own6 bb e6 e7 hq5 hp5
                  go_wp2_with (fail)
                  go_roundg (M.length - 1)
                  case measure => have := HMq.out; omega
                  case rel => exact ⟨j + 1, _, M.take K ++ M.drop (K + 1), HL2.out, by rw [HL2.out]; omega, by go_num, HG.out, HRDq.out, R6.out, B6.out⟩
end Go.Proofs.Ytbkjiinnojnkhaa
