import Derived.Test.YtjokghnlmaaejaaN4
import Derived.Test.YtjokghnlmaaejaaK4
namespace Go.Proofs.Ytjokghnlmaaejaa
open Go.RowKit
/-! ### Newest, Pairs -/
/-- .. as one step of a region that draws. -/
theorem step_appN {P : Program} {w : World} {ops : Array Oper} {o : Oper} {a : Act} {K : Act → World → Prop} {Q : Exit → Act → World → Prop} {E : Prop} (s x : Operand) (t : TypeId)
    (hgd : o.guard = none) (ho : o.op = .call { callee := .builtin .append, args := #[s, x], argTypes := #[t, t] })
    (base : Nat) (e : TypeId) (z : Value) (sz bytes : Nat) (ht : P.underlying t = some (.slice e)) (hinfo : (P.info? e).map (fun i => (i.zero, i.size, i.bytes)) = some (some z, sz, bytes)) (hzs : z.cells.size = sz) (hsz : 0 < sz)
    (v : Value) (n : Nat) (xs : List Value) (hs : a.eval s = v) (hown : w.ownsRow base e sz v n xs)
    (b c : Nat) (news : List Value) (hx : a.eval x = .slice (some ⟨b, 0, none⟩) 1 c) (hb : Bl w b e news) (hnl : news.length = sz) (h1 : ∀ u ∈ news, u.oneCell' = true)
    (h63 : n + 1 ≤ maxLen) (hbytes : (n + 1) * bytes ≤ 140737488355328) (hbase : base ≤ w.heap.size)
    (h : ∀ v' w', w'.ownsRow base e sz v' (n + 1) (xs ++ news) → w.grownBy w' v.ownBlock → K (a.put o.dst v') w') :
    if Region.wanted o (yielded ops a.tmps) = true then Oper.wp P o a w K Q else E := by
  rw [if_pos (by simp [Region.wanted, hgd])]
  obtain ⟨i, hi, hz, hsize, hby⟩ := info_parts hinfo
  have hnews : ∀ (j : Nat) (q : Value), news[j]? = some q → w.cell? (Addr.add ⟨b, 0, none⟩ j) = some q := by
    intro j q hj
    rw [add_at, Nat.zero_add, hb.cell]
    exact hj
  obtain ⟨v', w', hrun, r1, r2, _⟩ := run_append_own (P := P) w base t o.type e i z sz bytes ht hi hz hsize hby hzs hsz v n xs hown ⟨b, 0, none⟩ 1 c news (by omega) hnews h1 h63 hbytes hbase
  exact Lib.wp_append_run w s x t t ho v (.slice (some ⟨b, 0, none⟩) 1 c) hs hx v' w' hrun (h v' w' r1 r2)
set_option maxHeartbeats 2000000 in
theorem newest_c (w : World) (v : Value) (l : List RR) (h : Sr w w.heap.size v l) (hl : l.length ≤ 200) :
    Calls Try.prog 24 #[v] w fun e w' => (∃ u, e = .returned u ∧ Sr w' w'.heap.size u (newestF l)) ∧ Below w.heap.size w w' := by
  obtain ⟨a, cap, rfl, _⟩ := h.form
  have H := Lib.hid h
  clear h
  go_enter Try.func24, Try.ntmps24
  go_wp2_with (fail)
  go_loopg [3, 4] l.length (fun q out i wr => ∃ k : Nat, k + q = l.length ∧ i = .int .i64 (k : Int) ∧ Sr wr wr.heap.size out (newestF (l.take k)) ∧ Below w.heap.size w wr)
  case atStart => exact ⟨0, by omega, rfl, Sv.nil _ _ _, Below.refl _ _⟩
  case round =>
    obtain ⟨k, hk, rfl, sp, bel⟩ := hrel
    have BEL := Lib.hid bel
    have SP := Lib.hid sp
    have hwz := bel.size
    by_cases hlt : k < l.length
    · obtain ⟨b, off, rfl, hb, c0, c1, c2, c3, c4⟩ := H.out.at_ k hlt
      have i4 : (k : Int) < (l.length : Int) := by omega
      rw [← bel.cell (p := ⟨b, off + k * 5, none⟩) hb] at c0
      rw [← bel.cell (p := ⟨b, off + k * 5 + 1, none⟩) hb] at c1
      rw [← bel.cell (p := ⟨b, off + k * 5 + 2, none⟩) hb] at c2
      rw [← bel.cell (p := ⟨b, off + k * 5 + 3, none⟩) hb] at c3
      rw [← bel.cell (p := ⟨b, off + k * 5 + 4, none⟩) hb] at c4
      have HO := Lib.hid (newest_succ hlt)
      have hlen : (newestF (l.take k)).length ≤ 900 := by
        have := (newest_rise (l.take k)).2
        rw [List.length_take] at this
        omega
      have HS := Lib.hid (refSet_c wr _ _ l[k] SP.out hlen)
      clear bel sp
      generalize l[k] = r at *
      simp only [rrV] at HS
      go_wp2_with (fail)
      refine HS.out.mono ?_
      rintro e w3 ⟨⟨u, rfl, sp⟩, bel⟩
      have SP3 := Lib.hid sp
      have B3 := Lib.hid (BEL.out.trans (bel.mono hwz))
      clear sp bel
      go_wp2_with (fail)
      go_roundg (l.length - (k + 1))
      case measure => omega
      case rel => exact ⟨k + 1, by omega, by go_num, by rw [HO.out]; exact SP3.out, B3.out⟩
    · have e : k = l.length := by omega
      subst e
      rw [List.take_length] at SP
      clear bel sp
      go_wp2_with (fail)
      go_ret
      exact ⟨⟨_, rfl, SP.out⟩, BEL.out⟩
theorem pairs_succ {l : List RR} {k : Nat} (h : k < l.length) : pairsF (l.take (k + 1)) = pairsF (l.take k) ++ pairR l[k] := by
  unfold pairsF
  rw [List.take_succ_eq_append_getElem h, List.flatMap_append]
  simp
theorem pairs_len (l : List RR) : (pairsF l).length ≤ l.length := by
  induction l with
  | nil => simp [pairsF]
  | cons r l ih =>
    unfold pairsF at *
    rw [List.flatMap_cons, List.length_append, List.length_cons]
    have : (pairR r).length ≤ 1 := by unfold pairR; split <;> simp
    omega
theorem own_app {w : World} {base : Nat} {v : Value} {out : List PR} {y : PR} (h : w.ownsRow base 48 4 v (out.length + 1) (prs out ++ prs [y])) : w.ownsRow base 48 4 v (out ++ [y]).length (prs (out ++ [y])) := by
  rw [prs_app, List.length_append]
  exact h
set_option maxHeartbeats 2000000 in
theorem pairs_c (w : World) (v : Value) (l : List RR) (h : Sr w w.heap.size v l) (hl : l.length ≤ 900) :
    Calls Try.prog 23 #[v] w fun e w' => (∃ u, e = .returned u ∧ Sp w' w'.heap.size u (pairsF l)) ∧ Below w.heap.size w w' := by
  obtain ⟨a, cap, rfl, _⟩ := h.form
  have H := Lib.hid h
  clear h
  go_enter Try.func23, Try.ntmps23
  go_wp2_with (fail)
  go_loopg [3, 4] l.length (fun q out i wr => ∃ (k : Nat) (OUT : List PR), k + q = l.length ∧ i = .int .i64 (k : Int) ∧ pairsF (l.take k) = OUT ∧ wr.ownsRow w.heap.size 48 4 out OUT.length (prs OUT) ∧ Below w.heap.size w wr)
  case atStart => exact ⟨0, [], by omega, rfl, rfl, World.ownsRow_nil _ _ _ _, Below.refl _ _⟩
  case round =>
    obtain ⟨k, OUT, hk, rfl, hout, own, bel⟩ := hrel
    have BEL := Lib.hid bel
    have OWN := Lib.hid own
    have HOUT := Lib.hid hout
    have hwz := bel.size
    have hlen : OUT.length ≤ 900 := by
      have := pairs_len (l.take k)
      rw [hout, List.length_take] at this
      omega
    clear own hout
    by_cases hlt : k < l.length
    · obtain ⟨b, off, rfl, hb, c0, c1, c2, c3, c4⟩ := H.out.at_ k hlt
      have i4 : (k : Int) < (l.length : Int) := by omega
      rw [← bel.cell (p := ⟨b, off + k * 5, none⟩) hb] at c0
      rw [← bel.cell (p := ⟨b, off + k * 5 + 1, none⟩) hb] at c1
      rw [← bel.cell (p := ⟨b, off + k * 5 + 2, none⟩) hb] at c2
      rw [← bel.cell (p := ⟨b, off + k * 5 + 3, none⟩) hb] at c3
      rw [← bel.cell (p := ⟨b, off + k * 5 + 4, none⟩) hb] at c4
      have hsucc := pairs_succ hlt
      rw [HOUT.out] at hsucc
      clear bel
      generalize l[k] = r at *
      obtain ⟨rk, gone, rv⟩ := r
      simp only at c0 c1 c2 c3 c4
      cases gone
      · have hn : pairR ⟨rk, false, rv⟩ = [⟨rk, rv⟩] := rfl
        rw [hn] at hsucc
        have HN := Lib.hid hsucc
        have oa := ownsRow_fr OWN.out (((Fr.refl [] wr).drew).alloc (.cells (prs [⟨rk, rv⟩]).toArray 48)) (by simp)
        have ba : Bl (wr.drew.alloc (.cells (prs [⟨rk, rv⟩]).toArray 48)) wr.heap.size 48 (prs [⟨rk, rv⟩]) := Bl.new wr.drew _ _
        have bb := BEL.out.drew.alloc BEL.out.size (.cells (prs [⟨rk, rv⟩]).toArray 48)
        have OA := Lib.hid oa
        have BA := Lib.hid ba
        have BB := Lib.hid bb
        clear oa ba bb hsucc hn
        go_wp2_with (fail)
        go_region_law (refine step_appN (.tmp 17) (.tmp 29) 22 rfl rfl w.heap.size 48 _ 4 48 und22 info48 rfl (by decide) _ OUT.length (prs OUT) (by simp [Act.eval]) OA.out _ 1 (prs [⟨rk, rv⟩]) (by simp [Act.eval]) BA.out rfl (prs_one _) (by unfold maxLen; omega) (by omega) BB.out.size ?_; intro v4 w4 own4 g4)
        all_goals
          have O4 := Lib.hid (own_app own4)
          have B4 := Lib.hid (BB.out.grown g4 BB.out.size (fun j hj => own_ge OA.out hj (Nat.le_refl _)))
          clear own4 g4
          go_wp2_with (fail)
          go_roundg (l.length - (k + 1))
          case measure => omega
          case rel => exact ⟨k + 1, OUT ++ [⟨rk, rv⟩], by omega, by go_num, HN.out, O4.out, B4.out⟩
      · have hn : pairR ⟨rk, true, rv⟩ = [] := rfl
        rw [hn, List.append_nil] at hsucc
        have HN := Lib.hid hsucc
        clear hsucc hn
        go_wp2_with (fail)
        go_roundg (l.length - (k + 1))
        case measure => omega
        case rel => exact ⟨k + 1, OUT, by omega, by go_num, HN.out, OWN.out, BEL.out⟩
    · have e : k = l.length := by omega
      subst e
      rw [List.take_length] at HOUT
      clear bel
      go_wp2_with (fail)
      go_ret
      exact ⟨⟨_, rfl, by rw [HOUT.out]; exact Sv.own OWN.out⟩, BEL.out⟩
end Go.Proofs.Ytjokghnlmaaejaa
