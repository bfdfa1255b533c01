import Derived.Test.YtjokghnlmaaejaaN6
import Derived.Test.YtjokghnlmaaejaaN2
import Derived.Test.YtjokghnlmaaejaaN3
namespace Go.Proofs.Ytjokghnlmaaejaa
open Go.RowKit
/-! ### JudgeOf: the walk -/
theorem filter_succ {α : Type} (f : α → Bool) {l : List α} {k : Nat} (h : k < l.length) : (l.take (k + 1)).filter f = (l.take k).filter f ++ (if f l[k] then [l[k]] else []) := by
  rw [List.take_succ_eq_append_getElem h, List.filter_append]
  congr 1
  cases hf : f l[k] <;> simp [hf]
theorem own_appR {w : World} {base : Nat} {v : Value} {out : List RR} {y : RR} (h : w.ownsRow base 26 5 v (out.length + 1) (rrs out ++ rrs [y])) : w.ownsRow base 26 5 v (out ++ [y]).length (rrs (out ++ [y])) := by
  rw [rrs_app, List.length_append]
  exact h
set_option maxHeartbeats 4000000 in
theorem judgeOf_walk (w : World) {v : Value} {l : List RR} (h : Sr w w.heap.size v l) :
    Calls Try.prog 4 #[v] w fun e w' => e = .returned (.bool true) ∧ Below w.heap.size w w' := by
  have HB := Lib.hid (begun_c w)
  have H := Lib.hid h
  clear h
  go_enter Try.func4, Try.ntmps4
  go_wp2_with (fail)
  refine HB.out.mono ?_
  rintro e w1 ⟨rfl, bel⟩
  have hz1 := bel.size
  have B1 := Lib.hid bel
  have HR := recs_c w1 v l (H.out.below hz1 bel (Nat.le_refl _)) 30 (by omega)
  rw [show ((30 : Nat) : Int) = 30 from rfl] at HR
  have HR2 := Lib.hid HR
  clear HR bel H HB
  go_wp2_with (fail)
  refine HR2.out.mono ?_
  rintro e w2 ⟨⟨u, rfl, sr⟩, bel⟩
  have B2 := Lib.hid (B1.out.trans (bel.mono hz1))
  have hL : ((l.take 30).map cutR).length ≤ 30 := by rw [List.length_map, List.length_take]; omega
  generalize (l.take 30).map cutR = L at *
  obtain ⟨a, cap, rfl, _⟩ := Sv.form sr
  have sr' : Sr w2 w2.heap.size (.slice a L.length cap) L := sr
  have SR := Lib.hid sr'
  have hw2 := B2.out.size
  clear bel sr sr' HR2
  go_wp2_with (fail)
  go_loopg [4, 5] L.length (fun q out i wr => ∃ (k : Nat) (OUT : List RR), k + q = L.length ∧ i = .int .i64 (k : Int) ∧ (L.take k).filter mayR = OUT ∧ wr.ownsRow w2.heap.size 26 5 out OUT.length (rrs OUT) ∧ Below w2.heap.size w2 wr)
  case atStart => exact ⟨0, [], by omega, rfl, rfl, World.ownsRow_nil _ _ _ _, Below.refl _ _⟩
  case round =>
    obtain ⟨k, OUT, hk, rfl, hout, own, bel⟩ := hrel
    have BEL := Lib.hid bel
    have OWN := Lib.hid own
    have HOUT := Lib.hid hout
    have hwz := bel.size
    have hlen : OUT.length ≤ 30 := by
      have := List.length_filter_le mayR (L.take k)
      rw [hout, List.length_take] at this
      omega
    have SR' : Sr wr wr.heap.size (.slice a L.length cap) L := SR.out.below hwz bel (Nat.le_refl _)
    clear own hout bel
    by_cases hlt : k < L.length
    · obtain ⟨b, off, rfl, hb, c0, c1, c2, c3, c4⟩ := SR'.at_ k hlt
      have i4 : (k : Int) < (L.length : Int) := by omega
      have hsucc := filter_succ mayR hlt
      rw [HOUT.out] at hsucc
      have hmay := refMay_c wr L[k]
      clear SR'
      generalize L[k] = r at *
      have C0 := Lib.hid c0
      have C1 := Lib.hid c1
      have C2 := Lib.hid c2
      have C3 := Lib.hid c3
      have C4 := Lib.hid c4
      simp only [rrV] at hmay
      cases hm : mayR r
      · rw [hm] at hmay hsucc
        have HMAY := Lib.hid hmay
        have HN := Lib.hid (show (L.take (k + 1)).filter mayR = OUT by rw [hsucc]; simp)
        clear hmay hsucc hm
        go_wp2_with (fail)
        refine HMAY.out.mono ?_
        rintro e w3 ⟨rfl, bel⟩
        have B3 := Lib.hid (BEL.out.trans (bel.mono hwz))
        have O3 := Lib.hid (ownsRow_fr OWN.out (Fr.of_below bel) (by simp))
        clear bel c0 c1 c2 c3 c4
        go_wp2_with (fail)
        go_roundg (L.length - (k + 1))
        case measure => omega
        case rel => exact ⟨k + 1, OUT, by omega, by go_num, HN.out, O3.out, B3.out⟩
      · rw [hm] at hmay hsucc
        have HMAY := Lib.hid hmay
        have HN := Lib.hid (show (L.take (k + 1)).filter mayR = OUT ++ [r] by rw [hsucc]; simp)
        clear hmay hsucc hm
        go_wp2_with (fail)
        refine HMAY.out.mono ?_
        rintro e w3 ⟨rfl, bel⟩
        have B3 := Lib.hid (BEL.out.trans (bel.mono hwz))
        have O3 := Lib.hid (ownsRow_fr OWN.out (Fr.of_below bel) (by simp))
        have d0 : w3.cell? ⟨b, off + k * 5, none⟩ = some (.string r.k) := (bel.cell (p := ⟨b, off + k * 5, none⟩) hb).trans C0.out
        have d1 : w3.cell? ⟨b, off + k * 5 + 1, none⟩ = some (.bool r.gone) := (bel.cell (p := ⟨b, off + k * 5 + 1, none⟩) hb).trans C1.out
        have d2 : w3.cell? ⟨b, off + k * 5 + 2, none⟩ = some (.int .i64 r.v.kind) := (bel.cell (p := ⟨b, off + k * 5 + 2, none⟩) hb).trans C2.out
        have d3 : w3.cell? ⟨b, off + k * 5 + 3, none⟩ = some (.int .i64 r.v.n) := (bel.cell (p := ⟨b, off + k * 5 + 3, none⟩) hb).trans C3.out
        have d4 : w3.cell? ⟨b, off + k * 5 + 4, none⟩ = some (.string r.v.s) := (bel.cell (p := ⟨b, off + k * 5 + 4, none⟩) hb).trans C4.out
        clear bel c0 c1 c2 c3 c4
        have own_a := ownsRow_fr O3.out ((Fr.refl [] w3).alloc (.cells (rrs [r]).toArray 26)) (by simp)
        have hbl_a : Bl (w3.alloc (.cells (rrs [r]).toArray 26)) w3.heap.size 26 (rrs [r]) := Bl.new _ _ _
        have sv_a := hbl_a.sv (B := (w3.alloc (.cells (rrs [r]).toArray 26)).heap.size) 5 0 1 1 (by simp) (by rw [rrs_len]; simp) (by omega) (by simp [maxLen])
        rw [List.drop_zero, List.take_of_length_le (by rw [rrs_len]; simp)] at sv_a
        have OA := Lib.hid own_a
        have SA := Lib.hid sv_a
        have BA := Lib.hid (B3.out.alloc B3.out.size (.cells (rrs [r]).toArray 26))
        clear own_a hbl_a sv_a
        go_wp2_with (at_builtin; refine wpList_appN (.tmp 22) (.tmp 27) 39 rfl rfl w2.heap.size 26 _ 5 56 und39 info26 rfl (by decide) _ OUT.length (rrs OUT) rfl OA.out _ 1 _ (rrs [r]) rfl SA.out (rrs_one _) ?a5 ?a6 ?a7 ?_)
        case a5 => unfold maxLen; omega
        case a6 => omega
        case a7 => first | exact BA.out.size | exact Nat.le_succ_of_le B3.out.size
        intro v4 w4 own4 g4 hn4
        have O4 := Lib.hid (own_appR own4)
        have B4 := Lib.hid (BA.out.grown g4 BA.out.size (fun j hj => own_ge OA.out hj (Nat.le_refl _)))
        clear own4 g4 hn4
        go_wp2_with (fail)
        go_roundg (L.length - (k + 1))
        case measure => omega
        case rel => exact ⟨k + 1, OUT ++ [r], by omega, by go_num, HN.out, O4.out, B4.out⟩
    · have e : k = L.length := by omega
      subst e
      rw [List.take_length] at HOUT
      have hlaw := of_law L
      rw [HOUT.out] at hlaw
      have hn := (newest_rise OUT).2
      obtain ⟨oa, oc, ho⟩ := own_form OWN.out
      subst ho
      have so : Sr wr wr.heap.size (.slice oa OUT.length oc) OUT := Sv.own OWN.out
      have SO := Lib.hid so
      have HOF := Lib.hid (ofs_c wr _ L SR' (by omega))
      have HLAW := Lib.hid hlaw
      clear SR' so hlaw
      go_wp2_with (fail)
      refine HOF.out.mono ?_
      rintro e w5 ⟨⟨d5, rfl, sp5⟩, bel⟩
      have B5 := Lib.hid (BEL.out.trans (bel.mono hwz))
      have HNW := Lib.hid (newest_c w5 _ OUT (SO.out.below bel.size bel (Nat.le_refl _)) (by omega))
      have SP5 := Lib.hid sp5
      clear sp5 bel
      go_wp2_with (fail)
      refine HNW.out.mono ?_
      rintro e w6 ⟨⟨d6, rfl, sp6⟩, bel⟩
      have B6 := Lib.hid (B5.out.trans (bel.mono B5.out.size))
      have HPR := Lib.hid (pairs_c w6 _ (newestF OUT) sp6 (by omega))
      have SP6 := Lib.hid (SP5.out.below bel.size bel (Nat.le_refl _))
      clear sp6 bel
      go_wp2_with (fail)
      refine HPR.out.mono ?_
      rintro e w7 ⟨⟨d7, rfl, sp7⟩, bel⟩
      have B7 := Lib.hid (B6.out.trans (bel.mono B6.out.size))
      have heq := eqPairs_c w7 _ _ (ofF L) (pairsF (newestF OUT)) (SP6.out.below bel.size bel (Nat.le_refl _)) sp7
      rw [show decide (ofF L = pairsF (newestF OUT)) = true from decide_eq_true HLAW.out] at heq
      have HEQ := Lib.hid heq
      clear sp7 bel heq
      go_wp2_with (fail)
      refine HEQ.out.mono ?_
      rintro e w8 ⟨rfl, bel⟩
      have B8 := Lib.hid (B2.out.trans ((B7.out.trans (bel.mono B7.out.size)).mono hw2))
      clear bel
      go_wp2_with (fail)
      go_ret
      exact ⟨rfl, B8.out⟩
end Go.Proofs.Ytjokghnlmaaejaa
