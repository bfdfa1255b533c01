import Derived.Test.YtjokghnlmaaejaaJ8
namespace Go.Proofs.Ytjokghnlmaaejaa
open Go.RowKit
/-! ### judge.Set -/
/-- What Set gives: the slice that reads as `l`. -/
def Gives (w : World) (l : List PR) (e : Ending) (w' : World) : Prop := (∃ u, e = .returned u ∧ Sp w' w'.heap.size u l) ∧ Below w.heap.size w w'
theorem at_op {P : Program} {ops : Array Oper} {rest : List Oper} {o : Oper} {a : Act} {w : World} {Q : Exit → Act → World → Prop} (op : Op) (_ : o.op = op) (h : wpList P ops Q (o :: rest) a w) : wpList P ops Q (o :: rest) a w := h
theorem Row.set {w : World} {g cap : Nat} {l : List PR} {cs : List Value} (h : Row w g cap l cs) (c : Nat) (hc : c < l.length) (p : PR) :
    Row (w.setRow g (splice cs (c * 4) (prCells p)).toArray) g cap (l.set c p) (splice cs (c * 4) (prCells p)) := by
  obtain ⟨hb, hlen, hfit, htop, hpre⟩ := h
  have h4 : (prCells p).length = 4 := rfl
  have hsl : (splice cs (c * 4) (prCells p)).length = cs.length := splice_len (by omega)
  refine ⟨hb.setRow _, by omega, by rw [List.length_set]; exact hfit, htop, ?_⟩
  have e0 : l.set c p = l.take c ++ [p] ++ l.drop (c + 1) := by
    rw [List.set_eq_take_append_cons_drop, if_pos hc]; simp
  have e1 : prs [p] = prCells p := by simp [prs]
  have hta : (cs.take (l.length * 4)).take (c * 4) = cs.take (c * 4) := by rw [List.take_take, Nat.min_eq_left (by omega)]
  have hda : (cs.take (l.length * 4)).drop (c * 4 + 4) = (cs.drop (c * 4 + 4)).take (l.length * 4 - (c * 4 + 4)) := by rw [List.drop_take]
  rw [List.length_set, e0, prs_app, prs_app, e1, prs_take, prs_drop, ← hpre, hta, show (c + 1) * 4 = c * 4 + 4 by omega, hda]
  unfold splice
  rw [h4, ← List.append_assoc, List.take_append, List.take_of_length_le (by simp; omega)]
  congr 2
  simp
  omega
theorem prCells_one (p : PR) : ∀ u ∈ prCells p, u.oneCell' = true := by
  intro u hu
  simp [prCells] at hu
  rcases hu with rfl | rfl | rfl | rfl <;> rfl
theorem hasAt_lt {l : List PR} {i : Nat} {k : ByteArray} (h : hasAt l i k = true) : i < l.length := by
  unfold hasAt at h
  split at h
  · next p hp => exact (List.getElem?_eq_some_iff.1 hp).1
  · cases h
set_option maxHeartbeats 4000000 in
set_option maxRecDepth 100000 in
theorem set_c (w : World) (v : Value) (l : List PR) (r : RR) (h : Sp w w.heap.size v l) (hl : l.length ≤ 999) :
    Calls Try.prog 18 #[v, rrV r] w fun e w' => Gives w (setF l r) e w' := by
  have hs0 : sortedL l = false → setF l r = [] := fun h => by unfold setF; rw [h]; rfl
  have hm0 : sortedL l = true → mayR r = false → setF l r = l := fun h h2 => by unfold setF; rw [h, h2]; rfl
  have hm1 : sortedL l = true → mayR r = true → setF l r = if hasAt l (lowI l r.k) r.k then (if r.gone then l.eraseIdx (lowI l r.k) else l.set (lowI l r.k) ⟨r.k, r.v⟩) else (if r.gone then l else l.take (lowI l r.k) ++ ⟨r.k, r.v⟩ :: l.drop (lowI l r.k)) := fun h h2 => by unfold setF; rw [h, h2]; rfl
  have HM := Lib.hid fun W : World => may_c W r
  have hr : Bl (w.alloc (.cells #[.string r.k, .bool r.gone, .int .i64 r.v.kind, .int .i64 r.v.n, .string r.v.s] 26)) w.heap.size 26 [.string r.k, .bool r.gone, .int .i64 r.v.kind, .int .i64 r.v.n, .string r.v.s] := Bl.new w 26 _
  have hb : Below w.heap.size w (w.alloc (.cells #[.string r.k, .bool r.gone, .int .i64 r.v.kind, .int .i64 r.v.n, .string r.v.s] 26)) := (Below.refl _ _).alloc (Nat.le_refl _) _
  have HS0 := Lib.hid hs0
  have HM0 := Lib.hid hm0
  have HM1 := Lib.hid hm1
  clear hs0 hm0 hm1
  generalize setF l r = res at *
  obtain ⟨k, gone, ⟨kind, n, s⟩⟩ := r
  simp only [rrV] at *
  obtain ⟨a, cap, rfl, _⟩ := h.form
  have H := Lib.hid h
  clear h
  go_enter Try.func18, Try.ntmps18
  go_upto_region 1 with (fail)
  generalize w.alloc (.cells #[.string k, .bool gone, .int .i64 kind, .int .i64 n, .string s] 26) = w1 at *
  have hz1 := hb.size
  have hlt1 := hr.lt
  have H1 : Sp w1 w1.heap.size (.slice a l.length cap) l := H.out.below hz1 hb (Nat.le_refl _)
  have HR := Lib.hid hr
  have HB := Lib.hid hb
  clear hr hb
  go_wp2_with (fail)
  refine (sorted_c w1 _ l H1).mono ?_
  rintro e w2 ⟨rfl, bel⟩
  have H2 : Sp w2 w2.heap.size (.slice a l.length cap) l := H1.below bel.size bel (Nat.le_refl _)
  have B2 := Lib.hid bel
  have hz2 := bel.size
  clear bel H1
  cases hs : sortedL l
  · go_wp2_with (fail)
    go_ret
    refine ⟨⟨_, rfl, ?_⟩, HB.out.trans (B2.out.mono hz1)⟩
    rw [HS0.out hs]
    exact Sv.nil _ _ _
  · go_wp2_with (fail)
    refine (clone_c w2 _ l H2 (by omega)).mono ?_
    rintro e w3 ⟨⟨u, rfl, own⟩, bel⟩
    have OWN := Lib.hid own
    have hz3 := bel.size
    have B3 := Lib.hid (B2.out.trans (bel.mono hz2))
    clear bel own
    have hr3 := HR.out.below B3.out hlt1
    have c0 : w3.cell? ⟨w.heap.size, 0, none⟩ = some (.string k) := hr3.cell 0
    have c1 : w3.cell? ⟨w.heap.size, 1, none⟩ = some (.bool gone) := hr3.cell 1
    have c2 : w3.cell? ⟨w.heap.size, 2, none⟩ = some (.int .i64 kind) := hr3.cell 2
    have c3 : w3.cell? ⟨w.heap.size, 3, none⟩ = some (.int .i64 n) := hr3.cell 3
    have c4 : w3.cell? ⟨w.heap.size, 4, none⟩ = some (.string s) := hr3.cell 4
    clear hr3
    go_wp2_with (fail)
    refine (HM.out w3).mono ?_
    rintro e w4 ⟨rfl, bel⟩
    have hz4 := bel.size
    have B4 := Lib.hid (B3.out.trans (bel.mono (by omega)))
    have O4 := Lib.hid (ownsRow_fr OWN.out (Fr.of_below bel) (by simp))
    clear bel c0 c1 c2 c3 c4
    cases hm : mayR ⟨k, gone, ⟨kind, n, s⟩⟩
    · go_wp2_with (fail)
      go_ret
      refine ⟨⟨_, rfl, ?_⟩, HB.out.trans (B4.out.mono hz1)⟩
      rw [HM0.out hs hm]
      exact Sv.own O4.out
    · have hr4 := HR.out.below B4.out hlt1
      have c0 : w4.cell? ⟨w.heap.size, 0, none⟩ = some (.string k) := hr4.cell 0
      have HRes := Lib.hid (HM1.out hs hm)
      have HRise := Lib.hid ((sorted_iff l).1 hs).2
      clear hr4 hm hs HM1 HM0 HS0
      go_wp2_with (fail)
      refine (bsearch_c w4 u l k (Sv.own O4.out) (by omega) (lowI l k) (lowI_le l k) (lowI_iff HRise.out k)).mono ?_
      rintro e w5 ⟨rfl, bel⟩
      have hz5 := bel.size
      have B5 := Lib.hid (B4.out.trans (bel.mono (by omega)))
      have O5 := Lib.hid (ownsRow_fr O4.out (Fr.of_below bel) (by simp))
      have hcl := lowI_le l k
      have hha : hasAt l (lowI l k) k = true → lowI l k < l.length := hasAt_lt
      clear bel c0
      generalize lowI l k = c at *
      generalize hasAt l c k = has at *
      have hr5 := HR.out.below B5.out hlt1
      have c0 : w5.cell? ⟨w.heap.size, 0, none⟩ = some (.string k) := hr5.cell 0
      have c1 : w5.cell? ⟨w.heap.size, 1, none⟩ = some (.bool gone) := hr5.cell 1
      have c2 : w5.cell? ⟨w.heap.size, 2, none⟩ = some (.int .i64 kind) := hr5.cell 2
      have c3 : w5.cell? ⟨w.heap.size, 3, none⟩ = some (.int .i64 n) := hr5.cell 3
      have c4 : w5.cell? ⟨w.heap.size, 4, none⟩ = some (.string s) := hr5.cell 4
      clear hr5
      cases gone
      · cases has
        · have hz6 : (w5.alloc (.cells #[.string ⟨#[]⟩, .int .i64 0, .int .i64 0, .string ⟨#[]⟩] 48)).heap.size = w5.heap.size + 1 := by simp
          have fr6 : Fr [] w5 (w5.alloc (.cells #[.string ⟨#[]⟩, .int .i64 0, .int .i64 0, .string ⟨#[]⟩] 48)) := (Fr.refl _ _).alloc _
          have hnew : Bl (w5.alloc (.cells #[.string ⟨#[]⟩, .int .i64 0, .int .i64 0, .string ⟨#[]⟩] 48)) w5.heap.size 48 (prs [zp]) := Bl.new w5 48 (prs [zp])
          have o6 := ownsRow_fr O5.out fr6 (by simp)
          have hob : u.ownBlock ≠ some w5.heap.size := by
            intro e
            obtain ⟨_, ⟨rfl, _⟩ | ⟨g, cp, cur, rfl, hg, hh, _⟩⟩ := O5.out
            · cases e
            · have e2 : g = w5.heap.size := Option.some.inj e
              rw [Array.getElem?_eq_none (by omega)] at hh
              cases hh
          have HI := Lib.hid (insert_c (w5.alloc (.cells #[.string ⟨#[]⟩, .int .i64 0, .int .i64 0, .string ⟨#[]⟩] 48)) w2.heap.size u l o6 (by omega) (by omega) c hcl w5.heap.size 1 (by omega) (by simp [maxLen]) hnew hob)
          have B6 := Lib.hid (B5.out.trans (fr6.nil.mono (by omega)))
          clear hz6 fr6 hnew o6 hob
          go_wp2_with (fail)
          generalize w5.alloc (.cells #[.string ⟨#[]⟩, .int .i64 0, .int .i64 0, .string ⟨#[]⟩] 48) = w6 at *
          refine HI.out.mono ?_
          rintro e w7 ⟨⟨g, cp, cs, rfl, hg, row⟩, bel⟩
          have B7 := Lib.hid (B6.out.trans (bel.mono hz2))
          clear bel c0 c1 c2 c3 c4
          have hr7 := HR.out.below B7.out hlt1
          have c0 : w7.cell? ⟨w.heap.size, 0, none⟩ = some (.string k) := hr7.cell 0
          have c2 : w7.cell? ⟨w.heap.size, 2, none⟩ = some (.int .i64 kind) := hr7.cell 2
          have c3 : w7.cell? ⟨w.heap.size, 3, none⟩ = some (.int .i64 n) := hr7.cell 3
          have c4 : w7.cell? ⟨w.heap.size, 4, none⟩ = some (.string s) := hr7.cell 4
          have hpl := put_len l c
          have hc : c < (l.take c ++ zp :: l.drop c).length := by omega
          have ROW := Lib.hid row
          have hi1 : (c : Int) < (l.length : Int) + 1 := by omega
          have hfit : c * 4 + 4 ≤ cs.length := by have := row.len; have := row.fits; omega
          have RS := Lib.hid (row.set c hc ⟨k, ⟨kind, n, s⟩⟩)
          have FS := Lib.hid ((Fr.refl [g] w7).setRow (b := g) (by simp) (splice cs (c * 4) (prCells ⟨k, ⟨kind, n, s⟩⟩)).toArray)
          have HPL := Lib.hid hpl
          have hz7 := B7.out.size
          clear row hr7 hpl
          go_wp2_with ((with_reducible refine at_op (.store 48 (.tmp 53) (.tmp 52)) rfl ?_); refine wpList_store_seg 48 (.tmp 53) (.tmp 52) rfl rfl g (c * 4) 4 48 cs (prCells ⟨k, ⟨kind, n, s⟩⟩) rfl _ rfl rfl ROW.out.bl size48 rfl hfit (prCells_one _) ?_)
          go_ret
          have hz7' : w.heap.size ≤ w7.heap.size := by omega
          refine ⟨⟨_, rfl, ?_⟩, (HB.out.trans (B7.out.mono hz1)).trans (FS.out.below (B := w.heap.size) hz7' (by simp; omega))⟩
          rw [HRes.out]
          have h1 := RS.out.sp
          rw [List.length_set, HPL.out] at h1
          have h2 : (l.take c ++ zp :: l.drop c).set c ⟨k, ⟨kind, n, s⟩⟩ = l.take c ++ ⟨k, ⟨kind, n, s⟩⟩ :: l.drop c := by
            rw [List.set_append_right _ _ (by simp; omega)]
            simp [Nat.min_eq_left hcl]
          rw [h2] at h1
          exact h1
        · have hc := hha rfl
          obtain ⟨g, cp, cs, rfl, hg, row⟩ := Row.of_own O5.out (by intro e; subst e; simp at hc)
          have ROW := Lib.hid row
          have hi1 : (c : Int) < (l.length : Int) := by omega
          have hfit : c * 4 + 4 ≤ cs.length := by have := row.len; have := row.fits; omega
          have RS := Lib.hid (row.set c hc ⟨k, ⟨kind, n, s⟩⟩)
          have FS := Lib.hid ((Fr.refl [g] w5).setRow (b := g) (by simp) (splice cs (c * 4) (prCells ⟨k, ⟨kind, n, s⟩⟩)).toArray)
          clear row
          go_wp2_with ((with_reducible refine at_op (.store 48 (.tmp 53) (.tmp 52)) rfl ?_); refine wpList_store_seg 48 (.tmp 53) (.tmp 52) rfl rfl g (c * 4) 4 48 cs (prCells ⟨k, ⟨kind, n, s⟩⟩) rfl _ rfl rfl ROW.out.bl size48 rfl hfit (prCells_one _) ?_)
          go_ret
          refine ⟨⟨_, rfl, ?_⟩, (HB.out.trans (B5.out.mono hz1)).trans (FS.out.below (B := w.heap.size) (by omega) (by simp; omega))⟩
          rw [HRes.out]
          have := RS.out.sp
          rw [List.length_set] at this
          exact this
      · cases has
        · go_wp2_with (fail)
          go_ret
          refine ⟨⟨_, rfl, ?_⟩, HB.out.trans (B5.out.mono hz1)⟩
          rw [HRes.out]
          exact Sv.own O5.out
        · have hc := hha rfl
          obtain ⟨g, cp, cs, rfl, hg, row⟩ := Row.of_own O5.out (by intro e; subst e; simp at hc)
          have HD := Lib.hid (delete_c w5 g cp l cs row c hc (by omega))
          clear row
          go_wp2_with (go_at_call 34; refine HD.out.mono ?_; rintro e w6 ⟨⟨u6, rfl, sp⟩, fr⟩; have SP := Lib.hid sp; have FR := Lib.hid fr; clear sp fr)
          go_ret
          refine ⟨⟨_, rfl, ?_⟩, (HB.out.trans (B5.out.mono hz1)).trans (FR.out.below (B := w.heap.size) (by omega) (by simp; omega))⟩
          rw [HRes.out]
          exact SP.out
end Go.Proofs.Ytjokghnlmaaejaa
