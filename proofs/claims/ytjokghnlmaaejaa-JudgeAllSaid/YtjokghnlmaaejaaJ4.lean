import Derived.Test.YtjokghnlmaaejaaJ3
namespace Go.Proofs.Ytjokghnlmaaejaa
open Go.RowKit
/-! ### a region that draws, whose calls write only what is new -/
structure OkW (Ok : World → Prop) where
  w : World
  ok : Ok w
theorem wp_region_ok {P : Program} {id : Nat} {Q : Exit → Act → World → Prop} {a : Act} {w : World} {l : List Oper} (Ok : World → Prop) (hm : P.follows .mixedOrders = true) (hB : Region.lexB .any l.toArray = true) (h0 : Ok w.drew)
    (h : wpQuiet P l.toArray (fun w' => ∃ x : OkW Ok, w' = x.w) (fun a' => ∀ w', (∃ x : OkW Ok, w' = x.w) → Q .normal a' w') l a) : (Code.region id l.toArray true).wp P Q a w :=
  wp_region_quiet (C := fun w' => ∃ x : OkW Ok, w' = x.w) hm hB ⟨⟨w.drew, h0⟩, rfl⟩ (by simpa using h)
/-- The world holds what `w0` held. -/
def Old (w0 : World) (w : World) : Prop := Below w0.heap.size w0 w
theorem Old.step {w0 : World} (x : OkW (Old w0)) {w' : World} (h : Below x.w.heap.size x.w w') : Old w0 w' := Below.trans x.ok (h.mono x.ok.size)
theorem Old.cell {w0 : World} {p : Addr} {v : Value} (h : w0.cell? p = some v) (x : OkW (Old w0)) : x.w.cell? p = some v := (Below.cell x.ok (lt_of_cell h)).trans h
theorem Old.start (w0 : World) : Old w0 w0.drew := (Below.refl _ _).drew
instance Old.nonempty (w0 : World) : Nonempty (OkW (Old w0)) := ⟨⟨w0.drew, Old.start w0⟩⟩
/-! ### judge.Sorted -/
def lessB (a b : ByteArray) : Bool := Op.bytesLess a.toList b.toList
def okP (p : PR) : Bool := mayR ⟨p.k, false, p.v⟩
def okAt (l : List PR) (i : Nat) : Bool := match l[i]? with
  | none => true
  | some p => okP p && (match i with | 0 => true | j + 1 => match l[j]? with | none => true | some q => lessB q.k p.k)
def sortedL (l : List PR) : Bool := (List.range l.length).all fun i => okAt l i
theorem sortedL_no {l : List PR} {i : Nat} (h : i < l.length) (hn : okAt l i = false) : sortedL l = false := by
  unfold sortedL
  rw [List.all_eq_false]
  exact ⟨i, by simpa using h, by simp [hn]⟩
theorem sortedL_yes {l : List PR} (h : ∀ j, j < l.length → okAt l j = true) : sortedL l = true := by
  unfold sortedL
  rw [List.all_eq_true]
  intro i hi
  exact h i (by simpa using hi)
theorem okAt_zero {l : List PR} (h : 0 < l.length) : okAt l 0 = okP l[0] := by
  unfold okAt
  rw [List.getElem?_eq_getElem h]
  simp
theorem okAt_succ {l : List PR} {j : Nat} (h : j + 1 < l.length) : okAt l (j + 1) = (okP l[j + 1] && lessB l[j].k l[j + 1].k) := by
  unfold okAt
  rw [List.getElem?_eq_getElem h]
  simp only [List.getElem?_eq_getElem (show j < l.length by omega)]
theorem okAt_not {l : List PR} {j : Nat} (h : j < l.length) (hn : okP l[j] = false) : okAt l j = false := by
  cases j with
  | zero => rw [okAt_zero h, hn]
  | succ j => rw [okAt_succ h, hn]; rfl
set_option maxHeartbeats 2000000 in
theorem sorted_c (w : World) (v : Value) (l : List PR) (h : Sp w w.heap.size v l) :
    Calls Try.prog 13 #[v] w fun e w' => e = .returned (.bool (sortedL l)) ∧ Below w.heap.size w w' := by
  obtain ⟨a, cap, rfl, hl⟩ := h.form
  have H := Lib.hid h
  clear h
  go_enter Try.func13, Try.ntmps13
  go_wp2_with (fail)
  go_loopg [7] l.length (fun q i wr => ∃ k : Nat, k + q = l.length ∧ i = .int .i64 (k : Int) ∧ (∀ j, j < k → okAt l j = true) ∧ Below w.heap.size w wr)
  case atStart => exact ⟨0, by omega, rfl, by simp, Below.refl _ _⟩
  case round =>
    obtain ⟨k, hk, rfl, hok, bel⟩ := hrel
    have BEL := Lib.hid bel
    have hwz := bel.size
    by_cases hlt : k < l.length
    · obtain ⟨b, off, rfl, hb, c0, c1, c2, c3⟩ := H.out.at_ k hlt
      have i4 : (k : Int) < (l.length : Int) := by omega
      rw [← bel.cell (p := ⟨b, off + k * 4, none⟩) hb] at c0
      rw [← bel.cell (p := ⟨b, off + k * 4 + 1, none⟩) hb] at c1
      rw [← bel.cell (p := ⟨b, off + k * 4 + 2, none⟩) hb] at c2
      rw [← bel.cell (p := ⟨b, off + k * 4 + 3, none⟩) hb] at c3
      clear bel
      go_upto_region 4 with (fail)
      have hbx : Bl (wr.alloc (.cells #[.string l[k].k, .int .i64 l[k].v.kind, .int .i64 l[k].v.n, .string l[k].v.s] 48)) wr.heap.size 48 [.string l[k].k, .int .i64 l[k].v.kind, .int .i64 l[k].v.n, .string l[k].v.s] := Bl.new _ _ _
      have BE2 := Lib.hid (BEL.out.alloc hwz (.cells #[.string l[k].k, .int .i64 l[k].v.kind, .int .i64 l[k].v.n, .string l[k].v.s] 48))
      have hokp : okP l[k] = mayR ⟨l[k].k, false, l[k].v⟩ := rfl
      have hno := okAt_not hlt
      have FR := Lib.hid ((Below.refl wr.heap.size wr).alloc (Nat.le_refl _) (.cells #[.string l[k].k, .int .i64 l[k].v.kind, .int .i64 l[k].v.n, .string l[k].v.s] 48))
      generalize wr.alloc (.cells #[.string l[k].k, .int .i64 l[k].v.kind, .int .i64 l[k].v.n, .string l[k].v.s] 48) = w2 at *
      have d0 : ∀ x : OkW (Old w2), x.w.cell? ⟨wr.heap.size, 0, none⟩ = some (.string l[k].k) := Old.cell (hbx.cell 0)
      have d1 : ∀ x : OkW (Old w2), x.w.cell? ⟨wr.heap.size, 1, none⟩ = some (.int .i64 l[k].v.kind) := Old.cell (hbx.cell 1)
      have d2 : ∀ x : OkW (Old w2), x.w.cell? ⟨wr.heap.size, 2, none⟩ = some (.int .i64 l[k].v.n) := Old.cell (hbx.cell 2)
      have d3 : ∀ x : OkW (Old w2), x.w.cell? ⟨wr.heap.size, 3, none⟩ = some (.string l[k].v.s) := Old.cell (hbx.cell 3)
      have hm : ∀ W : World, Calls Try.prog 26 #[rrV ⟨l[k].k, false, l[k].v⟩] W fun e w' => e = .returned (.bool (okP l[k])) ∧ Below W.heap.size W w' := fun W => may_c W ⟨l[k].k, false, l[k].v⟩
      simp only [rrV] at hm
      have HM := Lib.hid hm
      have hw2 : wr.heap.size < w2.heap.size := hbx.lt
      clear hbx c0 c1 c2 c3 hm
      cases hp : okP l[k]
      · have HS := Lib.hid (sortedL_no hlt (hno hp))
        rw [hp] at HM
        clear hok hno hokp hp
        generalize l[k].k = kk at *
        generalize l[k].v.kind = v1 at *
        generalize l[k].v.n = v2 at *
        generalize l[k].v.s = v3 at *
        refine wp_region_ok (Old w2) (by kernel_rfl) (by kernel_rfl) (Old.start w2) ?_
        repeat (go_big_quiet_step ((go_at_call 26; refine (HM.out _).mono ?_; rintro e w' ⟨rfl, bel⟩; exact ⟨rfl, ⟨_, Old.step _ bel⟩, rfl⟩)))
        refine wpQuiet_nil ?_
        rintro _ ⟨⟨w4, hok4⟩, rfl⟩
        go_wp2_with (fail)
        go_ret
        exact ⟨by rw [HS.out]; rfl, BE2.out.trans (hok4.mono (by omega))⟩
      · rw [hp] at HM
        rcases k with _ | j
        · have hnx : ∀ i, i < 0 + 1 → okAt l i = true := fun i hi => by
            have : i = 0 := by omega
            subst this
            rw [okAt_zero hlt, hp]
          have HN := Lib.hid hnx
          clear hok hno hokp hp hnx
          generalize l[0].k = kk at *
          generalize l[0].v.kind = v1 at *
          generalize l[0].v.n = v2 at *
          generalize l[0].v.s = v3 at *
          refine wp_region_ok (Old w2) (by kernel_rfl) (by kernel_rfl) (Old.start w2) ?_
          repeat (go_big_quiet_step ((go_at_call 26; refine (HM.out _).mono ?_; rintro e w' ⟨rfl, bel⟩; exact ⟨rfl, ⟨_, Old.step _ bel⟩, rfl⟩)))
          refine wpQuiet_nil ?_
          rintro _ ⟨⟨w4, hok4⟩, rfl⟩
          go_wp2_with (fail)
          go_roundg (l.length - (0 + 1))
          case measure => omega
          case rel => exact ⟨0 + 1, by omega, by go_num, HN.out, BE2.out.trans (hok4.mono (by omega))⟩
        · obtain ⟨b', off', e', hb', p0, _, _, _⟩ := H.out.at_ j (by omega)
          obtain ⟨rfl, rfl⟩ : b = b' ∧ off = off' := by injection e' with e'; injection e' with e1 e2; exact ⟨e1, e2⟩
          rw [← BE2.out.cell (p := ⟨b, off + j * 4, none⟩) hb] at p0
          have d5 : ∀ x : OkW (Old w2), x.w.cell? ⟨b, off + j * 4, none⟩ = some (.string l[j].k) := Old.cell p0
          have hs := okAt_succ hlt
          rw [hp, Bool.true_and] at hs
          have i5 : (j : Int) < (l.length : Int) := by omega
          have HL := Lib.hid (show lessB l[j].k l[j + 1].k = Op.bytesLess l[j].k.toList l[j + 1].k.toList from rfl)
          cases hq : lessB l[j].k l[j + 1].k
          · have HS := Lib.hid (sortedL_no hlt (hs.trans hq))
            rw [hq] at HL
            have hl2 := HL.out.symm
            clear hok hno hokp hp hs hq p0 HL e'
            generalize l[j + 1].k = kk at *
            generalize l[j].k = kp at *
            generalize l[j + 1].v.kind = v1 at *
            generalize l[j + 1].v.n = v2 at *
            generalize l[j + 1].v.s = v3 at *
            refine wp_region_ok (Old w2) (by kernel_rfl) (by kernel_rfl) (Old.start w2) ?_
            repeat (go_big_quiet_step ((go_at_call 26; refine (HM.out _).mono ?_; rintro e w' ⟨rfl, bel⟩; exact ⟨rfl, ⟨_, Old.step _ bel⟩, rfl⟩)))
            refine wpQuiet_nil ?_
            rintro _ ⟨⟨w4, hok4⟩, rfl⟩
            go_wp2_with (fail)
            go_ret
            exact ⟨by rw [HS.out]; rfl, BE2.out.trans (hok4.mono (by omega))⟩
          · have HN := Lib.hid (show ∀ i, i < j + 1 + 1 → okAt l i = true from fun i hi => by
              rcases (by omega : i < j + 1 ∨ i = j + 1) with h | h
              · exact hok i h
              · subst h; exact hs.trans hq)
            rw [hq] at HL
            have hl2 := HL.out.symm
            clear hok hno hokp hp hs hq p0 HL e'
            generalize l[j + 1].k = kk at *
            generalize l[j].k = kp at *
            generalize l[j + 1].v.kind = v1 at *
            generalize l[j + 1].v.n = v2 at *
            generalize l[j + 1].v.s = v3 at *
            refine wp_region_ok (Old w2) (by kernel_rfl) (by kernel_rfl) (Old.start w2) ?_
            repeat (go_big_quiet_step ((go_at_call 26; refine (HM.out _).mono ?_; rintro e w' ⟨rfl, bel⟩; exact ⟨rfl, ⟨_, Old.step _ bel⟩, rfl⟩)))
            refine wpQuiet_nil ?_
            rintro _ ⟨⟨w4, hok4⟩, rfl⟩
            go_wp2_with (fail)
            go_roundg (l.length - (j + 1 + 1))
            case measure => omega
            case rel => exact ⟨j + 1 + 1, by omega, by go_num, HN.out, BE2.out.trans (hok4.mono (by omega))⟩
    · have e : k = l.length := by omega
      have hs := sortedL_yes (fun j hj => hok j (by omega))
      have HS := Lib.hid hs
      clear bel hok hs
      go_wp2_with (fail)
      go_ret
      exact ⟨by rw [HS.out]; rfl, BEL.out⟩
end Go.Proofs.Ytjokghnlmaaejaa
