import Derived.Test.YtjokghnlmaaejaaN7
import Derived.Deep.RegionHeld3
namespace Go.Proofs.Ytjokghnlmaaejaa
open Go.RowKit
/-! ### ref Val, law cut -/
set_option maxHeartbeats 2000000 in
theorem refGet_c (w : World) (v : Value) (l : List PR) (k : ByteArray) (h : Sp w w.heap.size v l) :
    Calls Try.prog 12 #[v, .string k] w fun e w' => e = .returned (.tuple #[rawV (getF l k).1, .bool (getF l k).2]) ∧ Below w.heap.size w w' := by
  obtain ⟨a, cap, rfl, hl⟩ := h.form
  have hr : Bl (w.alloc (.cells #[.int .i64 0, .int .i64 0, .string ⟨#[]⟩] 24)) w.heap.size 24 [.int .i64 0, .int .i64 0, .string ⟨#[]⟩] := Bl.new w 24 _
  have hb : Below w.heap.size w (w.alloc (.cells #[.int .i64 0, .int .i64 0, .string ⟨#[]⟩] 24)) := (Below.refl _ _).alloc (Nat.le_refl _) _
  have H := Lib.hid h
  clear h
  go_enter Try.func12, Try.ntmps12
  go_upto_region 1 with (fail)
  generalize w.alloc (.cells #[.int .i64 0, .int .i64 0, .string ⟨#[]⟩] 24) = w2 at *
  have hlt := hr.lt
  have hwz0 := hb.size
  have HB := Lib.hid hb
  have r0 : w2.cell? ⟨w.heap.size, 0, none⟩ = some (.int .i64 0) := hr.cell 0
  have r1 : w2.cell? ⟨w.heap.size, 1, none⟩ = some (.int .i64 0) := hr.cell 1
  have r2 : w2.cell? ⟨w.heap.size, 2, none⟩ = some (.string ⟨#[]⟩) := hr.cell 2
  have q0 := hr.free 0
  have q1 := hr.free 1
  have q2 := hr.free 2
  have HV := Lib.hid hr
  clear hr hb
  go_wp2_with (fail)
  go_loopg [6] l.length (fun q i wr => ∃ j : Nat, j + q = l.length ∧ i = .int .i64 (j : Int) ∧ (∀ t (ht : t < l.length), t < j → l[t].k ≠ k) ∧ w2 = wr)
  case atStart => exact ⟨0, by omega, rfl, by simp, rfl⟩
  case round =>
    obtain ⟨j, hj, rfl, hok, rfl⟩ := hrel
    by_cases hjl : j < l.length
    · obtain ⟨b, off, rfl, hb, c0, c1, c2, c3⟩ := H.out.at_ j hjl
      have i4 : (j : Int) < (l.length : Int) := by omega
      rw [← HB.out.cell (p := ⟨b, off + j * 4, none⟩) hb] at c0
      rw [← HB.out.cell (p := ⟨b, off + j * 4 + 1, none⟩) hb] at c1
      rw [← HB.out.cell (p := ⟨b, off + j * 4 + 2, none⟩) hb] at c2
      rw [← HB.out.cell (p := ⟨b, off + j * 4 + 3, none⟩) hb] at c3
      have hyes := getF_yes (k := k) hjl (fun t ht => hok t (by omega) ht)
      have hnx : l[j].k ≠ k → ∀ t (ht : t < l.length), t < j + 1 → l[t].k ≠ k := fun h t ht ht2 => by
        rcases (by omega : t < j ∨ t = j) with h1 | rfl
        · exact hok t ht h1
        · exact h
      clear hok
      generalize l[j] = x at *
      obtain ⟨x0, x1, x2, x3⟩ := x
      simp only at c0 c1 c2 c3 hyes hnx
      have HYES := Lib.hid hyes
      have HNX := Lib.hid hnx
      clear hyes hnx
      by_cases hk : x0 = k
      · have HG := Lib.hid (HYES.out hk)
        subst hk
        go_wp2_with (fail)
        have hv2 : Bl (((w2.setCell ⟨w.heap.size, 0, none⟩ (.int .i64 x1)).setCell ⟨w.heap.size, 1, none⟩ (.int .i64 x2)).setCell ⟨w.heap.size, 2, none⟩ (.string x3)) w.heap.size 24 [.int .i64 x1, .int .i64 x2, .string x3] := ((HV.out.set 0 (.int .i64 x1)).set 1 (.int .i64 x2)).set 2 (.string x3)
        (try simp only [Exit.inBlock, Exit.then])
        refine bodyPost_ret (results_cell_tmp rfl _ _ _ ⟨w.heap.size, 0, none⟩ rfl _ (load24 hv2)) rfl ?_
        rw [HG.out]
        exact ⟨rfl, ((HB.out.setCell (Nat.le_refl _) _).setCell (Nat.le_refl _) _).setCell (Nat.le_refl _) _⟩
      · have hk2 := bytes_ne hk
        have HN := Lib.hid (HNX.out hk)
        go_wp2_with (fail)
        go_roundg (l.length - (j + 1))
        case measure => omega
        case rel => exact ⟨j + 1, by omega, by go_num, HN.out, rfl⟩
    · have HG := Lib.hid (getF_no (l := l) (k := k) fun t ht => hok t ht (by omega))
      clear hok
      go_wp2_with (fail)
      have hv2 : Bl (((w2.setCell ⟨w.heap.size, 0, none⟩ (.int .i64 0)).setCell ⟨w.heap.size, 1, none⟩ (.int .i64 0)).setCell ⟨w.heap.size, 2, none⟩ (.string ⟨#[]⟩)) w.heap.size 24 [.int .i64 0, .int .i64 0, .string ⟨#[]⟩] := ((HV.out.set 0 (.int .i64 0)).set 1 (.int .i64 0)).set 2 (.string ⟨#[]⟩)
      (try simp only [Exit.inBlock, Exit.then])
      refine bodyPost_ret (results_cell_tmp rfl _ _ _ ⟨w.heap.size, 0, none⟩ rfl _ (load24 hv2)) rfl ?_
      rw [HG.out]
      exact ⟨rfl, ((HB.out.setCell (Nat.le_refl _) _).setCell (Nat.le_refl _) _).setCell (Nat.le_refl _) _⟩
/-! cut -/
def cutP (p : PR) : PR := ⟨cutS p.k 20, cutRaw p.v⟩
theorem cutP_rec (p : PR) : cutR ⟨p.k, false, p.v⟩ = ⟨(cutP p).k, false, (cutP p).v⟩ := rfl
theorem cuts_succ (l : List PR) (k : Nat) (h : k < l.length) : prs ((l.take (k + 1)).map cutP) = prs ((l.take k).map cutP) ++ prs [cutP l[k]] := by
  rw [List.take_succ_eq_append_getElem h, List.map_append, prs_app]
  rfl
set_option maxHeartbeats 4000000 in
theorem cuts_c (w : World) (v : Value) (l : List PR) (h : Sp w w.heap.size v l) :
    Calls Try.prog 8 #[v] w fun e w' => (∃ u, e = .returned u ∧ w'.ownsRow w.heap.size 48 4 u ((l.take 20).map cutP).length (prs ((l.take 20).map cutP))) ∧ Below w.heap.size w w' := by
  obtain ⟨a, cap, rfl, _⟩ := h.form
  obtain ⟨RES, hres⟩ : ∃ R, R = (l.take 20).map cutP := ⟨_, rfl⟩
  rw [← hres]
  have HRES := Lib.hid hres
  clear hres
  have H := Lib.hid h
  clear h
  go_enter Try.func8, Try.ntmps8
  go_wp2_with (fail)
  go_loopg [3, 4] l.length (fun q out i wr => ∃ (k : Nat) (OUT : List PR), k + q = l.length ∧ k ≤ 20 ∧ i = .int .i64 (k : Int) ∧ (l.take k).map cutP = OUT ∧ OUT.length ≤ 20 ∧ wr.ownsRow w.heap.size 48 4 out OUT.length (prs OUT) ∧ Below w.heap.size w wr)
  case atStart => exact ⟨0, [], by omega, by omega, rfl, rfl, by simp, World.ownsRow_nil _ _ _ _, Below.refl _ _⟩
  case round =>
    obtain ⟨k, OUT, hk, hkn, rfl, hout, hol, own, bel⟩ := hrel
    have BEL := Lib.hid bel
    have OWN := Lib.hid own
    have HOUT := Lib.hid hout
    have hwz := bel.size
    have hol2 : OUT.length = k ∨ OUT.length ≤ k := by rw [← hout, List.length_map, List.length_take]; omega
    have hol3 : OUT.length ≤ k := by omega
    clear own hout hol2
    by_cases hlt : k < l.length
    · by_cases hlt2 : k < 20
      · obtain ⟨b, off, rfl, hb, c0, c1, c2, c3⟩ := H.out.at_ k hlt
        have i4 : (k : Int) < (l.length : Int) := by omega
        have i5 : (k : Int) < 20 := by omega
        rw [← bel.cell (p := ⟨b, off + k * 4, none⟩) hb] at c0
        rw [← bel.cell (p := ⟨b, off + k * 4 + 1, none⟩) hb] at c1
        rw [← bel.cell (p := ⟨b, off + k * 4 + 2, none⟩) hb] at c2
        rw [← bel.cell (p := ⟨b, off + k * 4 + 3, none⟩) hb] at c3
        have hnx : (l.take (k + 1)).map cutP = OUT ++ [cutP l[k]] := by
          rw [List.take_succ_eq_append_getElem hlt, List.map_append, HOUT.out]
          rfl
        have HNX := Lib.hid hnx
        have hcut := fun W : World => cutR_c W ⟨l[k].k, false, l[k].v⟩
        simp only [cutP_rec, rrV] at hcut
        clear bel hnx
        generalize l[k] = x at *
        generalize cutP x = y at *
        obtain ⟨x0, x1, x2, x3⟩ := x
        obtain ⟨y0, y1, y2, y3⟩ := y
        simp only at c0 c1 c2 c3 hcut
        have HCUT := Lib.hid hcut
        have oldS : ∀ w' : World, Old wr w' → w'.cell? ⟨b, off + k * 4, none⟩ = some (.string x0) ∧ w'.cell? ⟨b, off + k * 4 + 1, none⟩ = some (.int .i64 x1) ∧ w'.cell? ⟨b, off + k * 4 + 2, none⟩ = some (.int .i64 x2) ∧ w'.cell? ⟨b, off + k * 4 + 3, none⟩ = some (.string x3) ∧ Old wr w' := fun w' h => ⟨(Below.cell h (lt_of_cell c0)).trans c0, (Below.cell h (lt_of_cell c1)).trans c1, (Below.cell h (lt_of_cell c2)).trans c2, (Below.cell h (lt_of_cell c3)).trans c3, h⟩
        have OS := Lib.hid oldS
        clear hcut oldS c0 c1 c2 c3
        have OZ : RowKit.Hid (Old wr (wr.alloc (.cells #[.string ⟨#[]⟩, .bool false, .int .i64 0, .int .i64 0, .string ⟨#[]⟩] 26)).drew) := Lib.hid (((Below.refl _ _).alloc (Nat.le_refl _) _).drew)
        have hzz : Bl (wr.alloc (.cells #[.string ⟨#[]⟩, .bool false, .int .i64 0, .int .i64 0, .string ⟨#[]⟩] 26)).drew wr.heap.size 26 [.string ⟨#[]⟩, .bool false, .int .i64 0, .int .i64 0, .string ⟨#[]⟩] := (Bl.new wr 26 [.string ⟨#[]⟩, .bool false, .int .i64 0, .int .i64 0, .string ⟨#[]⟩]).drew
        have HZ := Lib.hid hzz
        clear hzz
        go_upto_region 5 with (fail)
        go_region_held3 (fun w' => w'.cell? ⟨b, off + k * 4, none⟩ = some (.string x0) ∧ w'.cell? ⟨b, off + k * 4 + 1, none⟩ = some (.int .i64 x1) ∧ w'.cell? ⟨b, off + k * 4 + 2, none⟩ = some (.int .i64 x2) ∧ w'.cell? ⟨b, off + k * 4 + 3, none⟩ = some (.string x3) ∧ Old wr w') (first | exact OS.out _ (Old.start _) | exact OS.out _ OZ.out | exact OS.out _ hO | exact OS.out _ (Below.alloc hO hO.size _) | exact OS.out _ (Below.setCell (Below.setCell (Below.setCell (Below.setCell (Below.setCell hO (Nat.le_refl _) _) (Nat.le_refl _) _) (Nat.le_refl _) _) (Nat.le_refl _) _) (Nat.le_refl _) _)) (first
          | (go_at_call 9; refine (HCUT.out _).mono ?_; rintro e w4 ⟨rfl, bel⟩; have hO : Old wr w4 := (by first | exact Old.step ⟨_, Old.start _⟩ bel | exact Old.step ⟨_, OZ.out⟩ bel); first | (have hp4 : Bl w4 wr.heap.size 26 [.string ⟨#[]⟩, .bool false, .int .i64 0, .int .i64 0, .string ⟨#[]⟩] := HZ.out.below bel (by simp); have e0 : w4.cell? ⟨wr.heap.size, 0, none⟩ = some (.string ⟨#[]⟩) := hp4.cell 0; have g0 := hp4.free 0; have e1 : w4.cell? ⟨wr.heap.size, 1, none⟩ = some (.bool false) := hp4.cell 1; have g1 := hp4.free 1; have e2 : w4.cell? ⟨wr.heap.size, 2, none⟩ = some (.int .i64 0) := hp4.cell 2; have g2 := hp4.free 2; have e3 : w4.cell? ⟨wr.heap.size, 3, none⟩ = some (.int .i64 0) := hp4.cell 3; have g3 := hp4.free 3; have e4 : w4.cell? ⟨wr.heap.size, 4, none⟩ = some (.string ⟨#[]⟩) := hp4.cell 4; have g4 := hp4.free 4; have HP4 := Lib.hid hp4; clear hp4 bel) | (clear bel)))
        · have hw5 : Bl (w4.alloc (.cells #[.string y0, .bool false, .int .i64 y1, .int .i64 y2, .string y3] 26)) w4.heap.size 26 [.string y0, .bool false, .int .i64 y1, .int .i64 y2, .string y3] := Bl.new _ _ _
          have hb5 : Below wr.heap.size wr (w4.alloc (.cells #[.string y0, .bool false, .int .i64 y1, .int .i64 y2, .string y3] 26)) := Below.alloc hO hO.size _
          clear hO
          generalize w4.alloc (.cells #[.string y0, .bool false, .int .i64 y1, .int .i64 y2, .string y3] 26) = w5 at *
          have O5 := Lib.hid (ownsRow_fr OWN.out (Fr.of_below (Below.mono hb5 (Nat.le_refl _))) (by simp))
          have B5 := Lib.hid (BEL.out.trans (hb5.mono hwz))
          have d0 : w5.cell? ⟨w4.heap.size, 0, none⟩ = some (.string y0) := hw5.cell 0
          have d1 : w5.cell? ⟨w4.heap.size, 1, none⟩ = some (.bool false) := hw5.cell 1
          have d2 : w5.cell? ⟨w4.heap.size, 2, none⟩ = some (.int .i64 y1) := hw5.cell 2
          have d3 : w5.cell? ⟨w4.heap.size, 3, none⟩ = some (.int .i64 y2) := hw5.cell 3
          have d4 : w5.cell? ⟨w4.heap.size, 4, none⟩ = some (.string y3) := hw5.cell 4
          clear hw5 hb5
          have own_a := ownsRow_fr O5.out ((Fr.refl [] w5).alloc (.cells (prs [⟨y0, ⟨y1, y2, y3⟩⟩]).toArray 48)) (by simp)
          have hbl_a : Bl (w5.alloc (.cells (prs [⟨y0, ⟨y1, y2, y3⟩⟩]).toArray 48)) w5.heap.size 48 (prs [⟨y0, ⟨y1, y2, y3⟩⟩]) := Bl.new _ _ _
          have sv_a := hbl_a.sv (B := (w5.alloc (.cells (prs [⟨y0, ⟨y1, y2, y3⟩⟩]).toArray 48)).heap.size) 4 0 1 1 (by simp) (by rw [prs_len]; simp) (by omega) (by simp [maxLen])
          rw [List.drop_zero, List.take_of_length_le (by rw [prs_len]; simp)] at sv_a
          have OA := Lib.hid own_a
          have SA := Lib.hid sv_a
          have BA := Lib.hid (B5.out.alloc B5.out.size (.cells (prs [⟨y0, ⟨y1, y2, y3⟩⟩]).toArray 48))
          clear own_a hbl_a sv_a
          go_wp2_with (at_builtin; refine wpList_appN (.tmp 28) (.tmp 34) 22 rfl rfl w.heap.size 48 _ 4 48 und22 info48 rfl (by decide) _ OUT.length (prs OUT) rfl OA.out _ 1 _ (prs [⟨y0, ⟨y1, y2, y3⟩⟩]) rfl SA.out (prs_one _) ?a5 ?a6 ?a7 ?_)
          case a5 => unfold maxLen; omega
          case a6 => omega
          case a7 => first | exact BA.out.size | exact Nat.le_succ_of_le B5.out.size
          intro v6 w6 own6 g6 hn6
          have O6 := Lib.hid (own_app own6)
          have B6 := Lib.hid (BA.out.grown g6 BA.out.size (fun j hj => own_ge OA.out hj (Nat.le_refl _)))
          clear own6 g6 hn6
          go_wp2_with (fail)
          go_roundg (l.length - (k + 1))
          case measure => omega
          case rel => exact ⟨k + 1, OUT ++ [⟨y0, ⟨y1, y2, y3⟩⟩], by omega, by omega, by go_num, HNX.out, by simp; omega, O6.out, B6.out⟩
        · have hw5 : Bl (((((w4.setCell ⟨wr.heap.size, 0, none⟩ (.string y0)).setCell ⟨wr.heap.size, 1, none⟩ (.bool false)).setCell ⟨wr.heap.size, 2, none⟩ (.int .i64 y1)).setCell ⟨wr.heap.size, 3, none⟩ (.int .i64 y2)).setCell ⟨wr.heap.size, 4, none⟩ (.string y3)) wr.heap.size 26 [.string y0, .bool false, .int .i64 y1, .int .i64 y2, .string y3] := (((((HP4.out.set 0 (.string y0)).set 1 (.bool false)).set 2 (.int .i64 y1)).set 3 (.int .i64 y2)).set 4 (.string y3))
          have hb5 : Below wr.heap.size wr (((((w4.setCell ⟨wr.heap.size, 0, none⟩ (.string y0)).setCell ⟨wr.heap.size, 1, none⟩ (.bool false)).setCell ⟨wr.heap.size, 2, none⟩ (.int .i64 y1)).setCell ⟨wr.heap.size, 3, none⟩ (.int .i64 y2)).setCell ⟨wr.heap.size, 4, none⟩ (.string y3)) := (Below.setCell (Below.setCell (Below.setCell (Below.setCell (Below.setCell hO (Nat.le_refl _) _) (Nat.le_refl _) _) (Nat.le_refl _) _) (Nat.le_refl _) _) (Nat.le_refl _) _)
          clear hO e0 e1 e2 e3 e4 g0 g1 g2 g3 g4
          generalize (((((w4.setCell ⟨wr.heap.size, 0, none⟩ (.string y0)).setCell ⟨wr.heap.size, 1, none⟩ (.bool false)).setCell ⟨wr.heap.size, 2, none⟩ (.int .i64 y1)).setCell ⟨wr.heap.size, 3, none⟩ (.int .i64 y2)).setCell ⟨wr.heap.size, 4, none⟩ (.string y3)) = w5 at *
          have O5 := Lib.hid (ownsRow_fr OWN.out (Fr.of_below (Below.mono hb5 (Nat.le_refl _))) (by simp))
          have B5 := Lib.hid (BEL.out.trans (hb5.mono hwz))
          have d0 : w5.cell? ⟨wr.heap.size, 0, none⟩ = some (.string y0) := hw5.cell 0
          have d1 : w5.cell? ⟨wr.heap.size, 1, none⟩ = some (.bool false) := hw5.cell 1
          have d2 : w5.cell? ⟨wr.heap.size, 2, none⟩ = some (.int .i64 y1) := hw5.cell 2
          have d3 : w5.cell? ⟨wr.heap.size, 3, none⟩ = some (.int .i64 y2) := hw5.cell 3
          have d4 : w5.cell? ⟨wr.heap.size, 4, none⟩ = some (.string y3) := hw5.cell 4
          clear hw5 hb5
          have own_a := ownsRow_fr O5.out ((Fr.refl [] w5).alloc (.cells (prs [⟨y0, ⟨y1, y2, y3⟩⟩]).toArray 48)) (by simp)
          have hbl_a : Bl (w5.alloc (.cells (prs [⟨y0, ⟨y1, y2, y3⟩⟩]).toArray 48)) w5.heap.size 48 (prs [⟨y0, ⟨y1, y2, y3⟩⟩]) := Bl.new _ _ _
          have sv_a := hbl_a.sv (B := (w5.alloc (.cells (prs [⟨y0, ⟨y1, y2, y3⟩⟩]).toArray 48)).heap.size) 4 0 1 1 (by simp) (by rw [prs_len]; simp) (by omega) (by simp [maxLen])
          rw [List.drop_zero, List.take_of_length_le (by rw [prs_len]; simp)] at sv_a
          have OA := Lib.hid own_a
          have SA := Lib.hid sv_a
          have BA := Lib.hid (B5.out.alloc B5.out.size (.cells (prs [⟨y0, ⟨y1, y2, y3⟩⟩]).toArray 48))
          clear own_a hbl_a sv_a
          go_wp2_with (at_builtin; refine wpList_appN (.tmp 28) (.tmp 34) 22 rfl rfl w.heap.size 48 _ 4 48 und22 info48 rfl (by decide) _ OUT.length (prs OUT) rfl OA.out _ 1 _ (prs [⟨y0, ⟨y1, y2, y3⟩⟩]) rfl SA.out (prs_one _) ?a5 ?a6 ?a7 ?_)
          case a5 => unfold maxLen; omega
          case a6 => omega
          case a7 => first | exact BA.out.size | exact Nat.le_succ_of_le B5.out.size
          intro v6 w6 own6 g6 hn6
          have O6 := Lib.hid (own_app own6)
          have B6 := Lib.hid (BA.out.grown g6 BA.out.size (fun j hj => own_ge OA.out hj (Nat.le_refl _)))
          clear own6 g6 hn6
          go_wp2_with (fail)
          go_roundg (l.length - (k + 1))
          case measure => omega
          case rel => exact ⟨k + 1, OUT ++ [⟨y0, ⟨y1, y2, y3⟩⟩], by omega, by omega, by go_num, HNX.out, by simp; omega, O6.out, B6.out⟩
      · have i4 : (k : Int) < (l.length : Int) := by omega
        have i5 : ¬ (k : Int) < 20 := by omega
        obtain rfl : k = 20 := by omega
        clear bel
        go_wp2_with (fail)
        go_ret
        exact ⟨⟨_, rfl, by rw [HRES.out.trans HOUT.out]; exact OWN.out⟩, BEL.out⟩
    · have e : l.take k = l.take 20 := by rw [List.take_of_length_le (by omega), List.take_of_length_le (by omega)]
      have i4 : ¬ (k : Int) < (l.length : Int) := by omega
      rw [e] at HOUT
      clear bel
      go_wp2_with (fail)
      go_ret
      exact ⟨⟨_, rfl, by rw [HRES.out.trans HOUT.out]; exact OWN.out⟩, BEL.out⟩
end Go.Proofs.Ytjokghnlmaaejaa
