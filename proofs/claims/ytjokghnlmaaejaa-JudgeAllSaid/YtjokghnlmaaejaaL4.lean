import Derived.Test.YtjokghnlmaaejaaL3
namespace Go.Proofs.Ytjokghnlmaaejaa
open Go.RowKit
/-! ### Recs -/
theorem Sr.of {w : World} {B n : Nat} {v : Value} {l : List RR} (h : Sv w B 5 v n (rrs l)) (hl : l.length = n) : Sr w B v l := by
  subst hl
  exact h
theorem Sp.of {w : World} {B n : Nat} {v : Value} {l : List PR} (h : Sv w B 4 v n (prs l)) (hl : l.length = n) : Sp w B v l := by
  subst hl
  exact h
theorem recs_succ (l : List RR) (k : Nat) (h : k < l.length) : rrs ((l.take (k + 1)).map cutR) = rrs ((l.take k).map cutR) ++ rrs [cutR l[k]] := by
  rw [List.take_succ_eq_append_getElem h, List.map_append, rrs_app]
  rfl
set_option maxHeartbeats 2000000 in
theorem recs_c (w : World) (v : Value) (l : List RR) (h : Sr w w.heap.size v l) (n : Nat) (hn : n ≤ 100) :
    Calls Try.prog 21 #[v, .int .i64 (n : Int)] w fun e w' => (∃ u, e = .returned u ∧ Sr w' w'.heap.size u ((l.take n).map cutR)) ∧ Below w.heap.size w w' := by
  obtain ⟨a, cap, rfl, _⟩ := h.form
  have H := Lib.hid h
  clear h
  go_enter Try.func21, Try.ntmps21
  go_wp2_with (fail)
  go_loopg [5, 6] l.length (fun q out i wr => ∃ k : Nat, k + q = l.length ∧ k ≤ n ∧ i = .int .i64 (k : Int) ∧ wr.ownsRow w.heap.size 26 5 out k (rrs ((l.take k).map cutR)) ∧ Below w.heap.size w wr)
  case atStart => exact ⟨0, by omega, by omega, rfl, World.ownsRow_nil _ _ _ _, Below.refl _ _⟩
  case round =>
    obtain ⟨k, hk, hkn, rfl, own, bel⟩ := hrel
    have BEL := Lib.hid bel
    have OWN := Lib.hid own
    have hwz := bel.size
    by_cases hlt : k < l.length
    · by_cases hlt2 : k < n
      · obtain ⟨b, off, rfl, hb, c0, c1, c2, c3, c4⟩ := H.out.at_ k hlt
        have i4 : (k : Int) < (l.length : Int) := by omega
        have i5 : (k : Int) < (n : Int) := by omega
        rw [← bel.cell (p := ⟨b, off + k * 5, none⟩) hb] at c0
        rw [← bel.cell (p := ⟨b, off + k * 5 + 1, none⟩) hb] at c1
        rw [← bel.cell (p := ⟨b, off + k * 5 + 2, none⟩) hb] at c2
        rw [← bel.cell (p := ⟨b, off + k * 5 + 3, none⟩) hb] at c3
        rw [← bel.cell (p := ⟨b, off + k * 5 + 4, none⟩) hb] at c4
        have HC := Lib.hid (cutR_c wr l[k])
        have HS := Lib.hid (recs_succ l k hlt)
        clear bel own
        generalize l[k] = r at *
        go_wp2_with (fail)
        refine HC.out.mono ?_
        rintro e w2 ⟨rfl, bel⟩
        have O2 := Lib.hid (ownsRow_fr OWN.out (Fr.of_below bel) (by simp))
        have B2 := Lib.hid (BEL.out.trans (bel.mono hwz))
        have hz2 := bel.size
        clear bel c0 c1 c2 c3 c4
        simp only [rrV]
        have fr3 : Fr [] w2 (w2.alloc (.cells (rrs [cutR r]).toArray 26)) := (Fr.refl _ _).alloc _
        have hn3 : Bl (w2.alloc (.cells (rrs [cutR r]).toArray 26)) w2.heap.size 26 (rrs [cutR r]) := Bl.new w2 26 _
        have sv3 := hn3.sv (B := (w2.alloc (.cells (rrs [cutR r]).toArray 26)).heap.size) 5 0 1 1 (by simp) (by rw [rrs_len]; simp) (by omega) (by simp [maxLen])
        rw [List.drop_zero, List.take_of_length_le (by rw [rrs_len]; simp)] at sv3
        have O3 := Lib.hid (ownsRow_fr O2.out fr3 (by simp))
        have SV3 := Lib.hid sv3
        have hz3 : (w2.alloc (.cells (rrs [cutR r]).toArray 26)).heap.size = w2.heap.size + 1 := by simp
        have HZ3 := Lib.hid hz3
        clear hn3 sv3 fr3 hz3
        go_wp2_with (at_builtin; refine wpList_appN (.tmp 18) (.tmp 24) 39 rfl rfl w.heap.size 26 _ 5 56 und39 info26 rfl (by decide) _ k (rrs ((l.take k).map cutR)) rfl O3.out _ 1 _ (rrs [cutR r]) rfl SV3.out (rrs_one _) ?a5 ?a6 ?a7 ?_)
        case a5 => unfold maxLen; omega
        case a6 => omega
        case a7 => exact Nat.le_trans (Nat.le_trans hwz hz2) (by simp)
        intro v4 w4 own4 g4 hn4
        have B4 := Lib.hid ((B2.out.alloc B2.out.size (.cells (rrs [cutR r]).toArray 26)).grown g4 (Nat.le_trans (Nat.le_trans hwz hz2) (by rw [HZ3.out]; omega)) (fun k hk => own_ge O3.out hk (Nat.le_refl _)))
        have O4 := Lib.hid own4
        clear own4 g4 hn4
        go_wp2_with (fail)
        go_roundg (l.length - (k + 1))
        case measure => omega
        case rel => exact ⟨k + 1, by omega, by omega, by go_num, by rw [HS.out, List.map_take]; exact O4.out, B4.out⟩
      · have i4 : (k : Int) < (l.length : Int) := by omega
        have i5 : ¬ (k : Int) < (n : Int) := by omega
        obtain rfl : k = n := by omega
        have hs := Sv.own own
        have hlen : ((l.take k).map cutR).length = k := by rw [List.length_map, List.length_take, Nat.min_eq_left (by omega)]
        have HS := Sr.of hs hlen
        clear bel own hs
        go_wp2_with (fail)
        go_ret
        exact ⟨⟨_, rfl, by first | exact HS | (rw [← List.map_take]; exact HS)⟩, BEL.out⟩
    · have e : k = l.length := by omega
      subst e
      have hs := Sv.own own
      have hlen : ((l.take n).map cutR).length = l.length := by rw [List.length_map, List.length_take, Nat.min_eq_right (by omega)]
      have htk : l.take l.length = l.take n := by rw [List.take_length, List.take_of_length_le (by omega)]
      rw [htk] at hs
      have HS := Sr.of hs hlen
      clear bel own hs htk
      go_wp2_with (fail)
      go_ret
      exact ⟨⟨_, rfl, by first | exact HS | (rw [← List.map_take]; exact HS)⟩, BEL.out⟩
end Go.Proofs.Ytjokghnlmaaejaa
