import Derived.Test.YtjokghnlmaaejaaJ5
import Derived.Test.YtjokghnlmaaejaaK1
namespace Go.Proofs.Ytjokghnlmaaejaa
open Go.RowKit
/-! ### slices.Clone, slices.BinarySearchFunc -/
/-- `append(s, x...)`, `s` the call's own, `x` whatever reads as `news`. -/
theorem wpList_appN {P : Program} {w : World} {ops : Array Oper} {rest : List Oper} {o : Oper} {a : Act} {Q : Exit → Act → World → Prop} (s x : Operand) (t : TypeId)
    (hgd : o.guard = none) (ho : o.op = .call { callee := .builtin .append, args := #[s, x], argTypes := #[t, t] })
    (base : Nat) (e : TypeId) (z : Value) (sz bytes : Nat) (ht : P.underlying t = some (.slice e)) (hinfo : (P.info? e).map (fun i => (i.zero, i.size, i.bytes)) = some (some z, sz, bytes)) (hzs : z.cells.size = sz) (hsz : 0 < sz)
    (v : Value) (n : Nat) (xs : List Value) (hs : a.eval s = v) (hown : w.ownsRow base e sz v n xs)
    (xv : Value) (m B : Nat) (news : List Value) (hx : a.eval x = xv) (hsv : Sv w B sz xv m news) (h1 : ∀ u ∈ news, u.oneCell' = true)
    (h63 : n + m ≤ maxLen) (hbytes : (n + m) * bytes ≤ 140737488355328) (hbase : base ≤ w.heap.size)
    (h : ∀ v' w', w'.ownsRow base e sz v' (n + m) (xs ++ news) → w.grownBy w' v.ownBlock → (v' = .slice none 0 0 → v = .slice none 0 0) → wpList P ops Q rest (a.put o.dst v') w') : wpList P ops Q (o :: rest) a w := by
  obtain ⟨i, hi, hz, hsize, hby⟩ := info_parts hinfo
  obtain ⟨hl, _, oa, c, rfl, _, _, hN, hc⟩ := hsv
  rcases oa with _ | ad
  · rcases hc with rfl | ⟨b, off, e, _⟩
    · have hc := hN rfl
      subst hc
      have : m = 0 := by
        rcases Nat.eq_zero_or_pos m with h | h
        · exact h
        · have := Nat.mul_pos h hsz
          simp at hl
          omega
      subst this
      refine wpList_append_own_none hgd s x t ho base e i sz ht hi v n xs hs hown hx ?_
      simpa using h v w (by simpa using hown) ⟨rfl, rfl, rfl, Nat.le_refl _, fun _ _ _ => rfl⟩ id
    · cases e
  · refine wpList_append_own w hgd s x t ho base e i z sz bytes ht hi hz hsize hby hzs hsz v n xs hs hown ad m c news hx hl ?_ h1 h63 hbytes hbase (fun v' w' a1 a2 a3 => h v' w' a1 a2 fun h => (a3.1 h).1)
    intro j u hj
    obtain ⟨hj1, rfl⟩ := List.getElem?_eq_some_iff.1 hj
    rcases hc with rfl | ⟨b, off, e, hc⟩
    · simp at hj1
    · cases e
      rw [← hc.2 j hj1]
      unfold Addr.add
      split
      · next h0 => subst h0; rfl
      · rfl
theorem info48 : (Try.prog.info? 48).map (fun i => (i.zero, i.size, i.bytes)) = some (some (.agg #[.string ⟨#[]⟩, .int .i64 0, .int .i64 0, .string ⟨#[]⟩]), 4, 48) := by kernel_rfl
theorem info26 : (Try.prog.info? 26).map (fun i => (i.zero, i.size, i.bytes)) = some (some (.agg #[.string ⟨#[]⟩, .bool false, .int .i64 0, .int .i64 0, .string ⟨#[]⟩]), 5, 56) := by kernel_rfl
theorem und22 : Try.prog.underlying 22 = some (.slice 48) := by kernel_rfl
theorem und39 : Try.prog.underlying 39 = some (.slice 26) := by kernel_rfl
theorem clone_c (w : World) (v : Value) (l : List PR) (h : Sp w w.heap.size v l) (hl : l.length ≤ 1000) :
    Calls Try.prog 30 #[v] w fun e w' => (∃ u, e = .returned u ∧ w'.ownsRow w.heap.size 48 4 u l.length (prs l)) ∧ Below w.heap.size w w' := by
  obtain ⟨a, cap, rfl, _⟩ := h.form
  have hne := Lib.run_eql_slice_nil (P := Try.prog)
  have own0 : (w.alloc (.cells #[] 48)).ownsRow w.heap.size 48 4 (.slice (some ⟨w.heap.size, 0, none⟩) 0 0) 0 [] :=
    ⟨rfl, .inr ⟨_, 0, #[], rfl, Nat.le_refl _, heap_alloc_new w _, Nat.le_refl _, by simp [maxLen], rfl, rfl⟩⟩
  have hsv : Sv (w.alloc (.cells #[] 48)) w.heap.size 4 (.slice a l.length cap) l.length (prs l) := h.keep (Nat.le_refl _) fun b o hb => World.cell?_alloc_lt w _ ⟨b, o, none⟩ (by simp; omega)
  have h0 : a = none → l = [] := by
    rintro rfl
    obtain ⟨h1, _, a', c', e, h2, h3, h4, _⟩ := h
    injection e with e1 e2 e3
    have := h4 e1.symm
    exact List.eq_nil_of_length_eq_zero (by omega)
  rcases a with _ | ad
  · have := h0 rfl
    subst this
    clear h hsv own0 h0
    go_enter Try.func30, Try.ntmps30
    go_wp2_with (fail)
    go_ret
    exact ⟨⟨_, rfl, World.ownsRow_nil _ _ _ _⟩, Below.refl _ _⟩
  · clear h h0
    go_enter Try.func30, Try.ntmps30
    have HSV := Lib.hid hsv
    clear hsv
    go_wp2_with (at_builtin; refine wpList_appN (.tmp 5) (.tmp 6) 22 rfl rfl w.heap.size 48 _ 4 48 und22 info48 rfl (by decide) _ 0 [] rfl own0 _ l.length w.heap.size (prs l) rfl HSV.out (prs_one _) ?a5 ?a6 ?a7 ?_)
    case a5 => unfold maxLen; omega
    case a6 => omega
    case a7 => simp
    intro v3 w3 own3 g3 hn3
    have hb : Below w.heap.size w w3 := ((Below.refl _ _).alloc (Nat.le_refl _) _).grown g3 (by simp) (fun k hk => by simp [Value.ownBlock] at hk; omega)
    have O := Lib.hid own3
    have HB := Lib.hid hb
    clear own3 hb g3 hn3 hne own0
    go_wp2_with (fail)
    go_ret
    exact ⟨⟨v3, rfl, by have := O.out; simpa using this⟩, HB.out⟩
set_option maxHeartbeats 4000000 in
theorem bsearch_c (w : World) (v : Value) (l : List PR) (k : ByteArray) (h : Sp w w.heap.size v l) (hl : l.length ≤ 1000) (c : Nat) (hc : c ≤ l.length) (hlo : ∀ j (hj : j < l.length), cmpS l[j].k k < 0 ↔ j < c) :
    Calls Try.prog 31 #[v, .string k, .func (.func 32) #[] #[]] w fun e w' => e = .returned (.tuple #[.int .i64 (c : Int), .bool (hasAt l c k)]) ∧ Below w.heap.size w w' := by
  obtain ⟨a, cap, rfl, _⟩ := h.form
  have H := Lib.hid h
  have HLO := Lib.hid hlo
  clear h hlo
  go_enter Try.func31, Try.ntmps31
  go_wp2_with (fail)
  go_loopg [9, 10] l.length (fun q s9 s10 wr => ∃ lo hi : Nat, s9 = .int .i64 lo ∧ s10 = .int .i64 hi ∧ lo ≤ c ∧ c ≤ hi ∧ hi ≤ l.length ∧ hi - lo ≤ q ∧ Below w.heap.size w wr)
  case atStart => exact ⟨0, l.length, rfl, rfl, by omega, by omega, by omega, by omega, Below.refl _ _⟩
  case round =>
    obtain ⟨lo, hi, rfl, rfl, h1, h2, h3, h4, bel⟩ := hrel
    have BEL := Lib.hid bel
    have hwz := bel.size
    by_cases hlt : lo < hi
    · obtain ⟨m, hm⟩ : ∃ m, m = (lo + hi) / 2 := ⟨_, rfl⟩
      have hml : m < l.length := by omega
      obtain ⟨b, off, rfl, hb, c0, c1, c2, c3⟩ := H.out.at_ m hml
      rw [← bel.cell (p := ⟨b, off + m * 4, none⟩) hb] at c0
      rw [← bel.cell (p := ⟨b, off + m * 4 + 1, none⟩) hb] at c1
      rw [← bel.cell (p := ⟨b, off + m * 4 + 2, none⟩) hb] at c2
      rw [← bel.cell (p := ⟨b, off + m * 4 + 3, none⟩) hb] at c3
      have HC := lam_c wr l[m] k
      have hlm := HLO.out m hml
      generalize l[m] = x at *
      obtain ⟨x0, x1, x2, x3⟩ := x
      simp only [prV] at HC c0 c1 c2 c3 hlm
      generalize cmpS x0 k = z at *
      clear bel
      have HLM := Lib.hid hlm
      clear hlm
      have HC2 := Lib.hid HC
      clear HC
      have hm2 : ((lo : Int) + (hi : Int)) / 2 = (m : Int) := by omega
      have hm3 : lo ≤ m ∧ m < hi := by omega
      clear hm
      have i4 : (m : Int) < (l.length : Int) := by omega
      go_upto_region 5 with (fail)
      clear hm2
      by_cases hz : z < 0
      · go_wp2_with (go_at_call 32; refine HC2.out.mono ?_; rintro e w' ⟨rfl, bel⟩; have B4 := Lib.hid (BEL.out.trans (bel.mono hwz)); clear bel)
        go_roundg (hi - (m + 1))
        case measure => omega
        case rel => exact ⟨m + 1, hi, by go_num, rfl, by have := HLM.out.1 hz; omega, h2, h3, Nat.le_refl _, B4.out⟩
      · go_wp2_with (go_at_call 32; refine HC2.out.mono ?_; rintro e w' ⟨rfl, bel⟩; have B4 := Lib.hid (BEL.out.trans (bel.mono hwz)); clear bel)
        go_roundg (m - lo)
        case measure => omega
        case rel => exact ⟨lo, m, rfl, rfl, h1, (Nat.lt_or_ge m c).elim (fun h => by have := HLM.out.2 h; omega) id, by omega, Nat.le_refl _, B4.out⟩
    · obtain rfl : hi = lo := by omega
      obtain rfl : c = hi := by omega
      by_cases hn : c < l.length
      · obtain ⟨b, off, rfl, hb, c0, c1, c2, c3⟩ := H.out.at_ c hn
        rw [← bel.cell (p := ⟨b, off + c * 4, none⟩) hb] at c0
        rw [← bel.cell (p := ⟨b, off + c * 4 + 1, none⟩) hb] at c1
        rw [← bel.cell (p := ⟨b, off + c * 4 + 2, none⟩) hb] at c2
        rw [← bel.cell (p := ⟨b, off + c * 4 + 3, none⟩) hb] at c3
        have HC := lam_c wr l[c] k
        have hha : hasAt l c k = decide (cmpS l[c].k k = 0) := by unfold hasAt; rw [List.getElem?_eq_getElem hn]
        have HH := Lib.hid hha
        clear hha bel
        generalize l[c] = x at *
        obtain ⟨x0, x1, x2, x3⟩ := x
        simp only [prV] at HC c0 c1 c2 c3 HH
        generalize cmpS x0 k = z at *
        have HC2 := Lib.hid HC
        clear HC
        by_cases hz : z = 0
        · have HH2 := Lib.hid (show hasAt l c k = true by rw [HH.out]; simp [hz])
          go_wp2_with (go_at_call 32; refine HC2.out.mono ?_; rintro e w' ⟨rfl, bel⟩; have B4 := Lib.hid (BEL.out.trans (bel.mono hwz)); clear bel)
          go_ret2
          exact ⟨by rw [HH2.out]; rfl, B4.out⟩
        · have HH2 := Lib.hid (show hasAt l c k = false by rw [HH.out]; simp [hz])
          go_wp2_with (go_at_call 32; refine HC2.out.mono ?_; rintro e w' ⟨rfl, bel⟩; have B4 := Lib.hid (BEL.out.trans (bel.mono hwz)); clear bel)
          go_ret2
          exact ⟨by rw [HH2.out, ← show (z == 0) = false by simp [hz]]; rfl, B4.out⟩
      · have HH2 := Lib.hid (show hasAt l c k = false by unfold hasAt; rw [List.getElem?_eq_none (by omega)])
        clear bel
        go_wp2_with (fail)
        go_ret2
        exact ⟨by rw [HH2.out]; rfl, BEL.out⟩
end Go.Proofs.Ytjokghnlmaaejaa
