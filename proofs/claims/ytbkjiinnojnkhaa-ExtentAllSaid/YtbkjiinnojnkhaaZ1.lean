import Derived.Test.YtbkjiinnojnkhaaY3
namespace Go.Proofs.Ytbkjiinnojnkhaa
open Go.RowKit
theorem st_shift (a n N : Nat) (g : Nat → Bool) (hN : a + n ≤ N) (hlo : ∀ t, t < a → g t = false) : ∀ k, k ≤ n → st 0 (rg N g) (a + k) = st (a : Int) (rg n fun t => g (a + t)) k
  | 0, _ => by
    have : ∀ k, k ≤ a → st 0 (rg N g) k = ([], 0) := by
      intro k
      induction k with
      | zero => intro _; rfl
      | succ k ih =>
        intro hk
        have hq : (rg N g)[k]? = some false := by rw [rg_get, if_pos (by omega), hlo k (by omega)]
        rw [st, ih (by omega), hq]
        simp
    rw [Nat.add_zero, this a (Nat.le_refl _)]
    rfl
  | k + 1, hk => by
    have ih := st_shift a n N g hN hlo k (by omega)
    have h1 : (rg N g)[a + k]? = some (g (a + k)) := by rw [rg_get, if_pos (by omega)]
    have h2 : (rg n fun t => g (a + t))[k]? = some (g (a + k)) := by rw [rg_get, if_pos (by omega)]
    rw [← Nat.add_assoc, st, st, ih, h1, h2]
    rw [show (0 : Int) + ((a + k : Nat) : Int) = (a : Int) + (k : Int) by omega]
theorem spans_shift (a n N : Nat) (g : Nat → Bool) (hN : a + n ≤ N) (hlo : ∀ t, t < a → g t = false) (hhi : ∀ t, a + n ≤ t → g t = false) : spans 0 (rg N g) = spans (a : Int) (rg n fun t => g (a + t)) := by
  have h1 : spansK 0 (rg N g) (a + n) = spansK (a : Int) (rg n fun t => g (a + t)) n := by
    unfold spansK
    rw [st_shift a n N g hN hlo n (Nat.le_refl _), show (0 : Int) + ((a + n : Nat) : Int) = (a : Int) + (n : Int) by omega]
  have h2 : ∀ d, a + n + d ≤ N → spansK 0 (rg N g) (a + n + d) = spansK 0 (rg N g) (a + n) := by
    intro d
    induction d with
    | zero => intro _; rfl
    | succ d ih =>
      intro hd
      rw [← Nat.add_assoc, spans_skip 0 (rg N g) (a + n + d) (by rw [rg_get, if_pos (by omega), hhi _ (by omega)]), ih (by omega)]
  have h3 := h2 (N - (a + n)) (by omega)
  rw [show a + n + (N - (a + n)) = N by omega] at h3
  unfold spans
  rw [rg_len, rg_len, h3, h1]
theorem count_shift (a n N : Nat) (g : Nat → Bool) (hN : a + n ≤ N) (hlo : ∀ t, t < a → g t = false) (hhi : ∀ t, a + n ≤ t → g t = false) : (rg N g).count true = (rg n fun t => g (a + t)).count true := by
  have h := tot_spans 0 (rg N g)
  rw [spans_shift a n N g hN hlo hhi, tot_spans] at h
  omega
set_option maxHeartbeats 4000000 in
theorem same_c (w : World) (p : Nat) (v : Value) (at_ : Int) (fr : List Bool) (h : RoomR w p v at_ fr) (vf : Value) (free : List Bool) (hv : Sb w w.heap.size vf free) (hlen : free.length ≤ 1000)
    (hsp : spans at_ fr = spans 0 free) (hct : fr.count true = free.count true) :
    Calls Try.prog 14 #[.pointer (some ⟨p, 0, none⟩), vf] w fun e w' => e = .returned (.bool true) ∧ Below w.heap.size w w' := by
  obtain ⟨a, cap, rfl, _⟩ := hv.form
  have H := Lib.hid hv
  have HR := Lib.hid h
  have hSl : (spans 0 free).length ≤ 1000 := Nat.le_trans (spansK_le 0 free _) hlen
  have HSP := Lib.hid hsp
  have HCT := Lib.hid hct
  clear h hv hsp hct
  go_enter Try.func14, Try.ntmps14
  go_wp2_with (fail)
  go_loopg [5, 6, 7] free.length (fun q u5 z i wr => ∃ k : Nat, k + q = free.length ∧ i = .int .i64 (k : Int) ∧ z = .int .i64 (((free.take k).count true : Nat) : Int) ∧ wr.ownsRow w.heap.size 30 2 u5 (spansK 0 free k).length (spCells (spansK 0 free k)) ∧ Below w.heap.size w wr)
  case atStart => exact ⟨0, by omega, rfl, rfl, ⟨rfl, .inl ⟨rfl, rfl⟩⟩, Below.refl _ _⟩
  case round =>
    obtain ⟨k, hk, rfl, rfl, own, bel⟩ := hrel
    by_cases hlt : k < free.length
    · have i4 : (k : Int) < (free.length : Int) := by omega
      obtain ⟨b, off, rfl, hb, c2⟩ := H.out.at_ k hlt
      have d2 := (bel.cell (p := ⟨b, off + k, none⟩) hb).trans c2
      have hq : free[k]? = some free[k] := List.getElem?_eq_getElem hlt
      have hle := spansK_le 0 free k
      have hws := bel.size
      have hcn : (free.take (k + 1)).count true = (free.take k).count true + if free[k] = true then 1 else 0 := by
        rw [List.take_succ_eq_append_getElem hlt, List.count_append]
        cases free[k] <;> simp
      have hcle : (free.take k).count true ≤ k := by
        have := List.count_le_length (a := true) (l := free.take k)
        rw [List.length_take] at this
        omega
      clear c2
      cases hf : free[k]
      · rw [hf] at d2 hq hcn
        have hsk := spans_skip 0 free k hq
        have OWN := Lib.hid own
        have BEL := Lib.hid bel
        have HSK := Lib.hid hsk
        have HCN := Lib.hid hcn
        clear hsk own bel hq hf hcn
        go_wp2_with (fail)
        go_roundg (free.length - (k + 1))
        case measure => omega
        case rel => exact ⟨k + 1, by omega, by go_num, by rw [HCN.out]; rfl, by rw [HSK.out]; exact OWN.out, BEL.out⟩
      · rw [hf] at d2 hq hcn
        have hst := st_le 0 free k
        have hprev : 0 < k → wr.cell? ⟨b, off + (k - 1), none⟩ = some (.bool (decide (0 < (st 0 free k).2))) := by
          intro hj
          obtain ⟨j, rfl⟩ : ∃ j, k = j + 1 := ⟨k - 1, by omega⟩
          rw [st_prev 0 free j (by omega), show j + 1 - 1 = j by omega]
          obtain ⟨b', off', e', _, c3⟩ := H.out.at_ j (by omega)
          cases e'
          exact (bel.cell (p := ⟨b, off + j, none⟩) hb).trans c3
        have HCN := Lib.hid hcn
        clear hcn
        generalize (free.take k).count true = cn at *
        rcases Nat.eq_zero_or_pos (st 0 free k).2 with hm | hm
        · have hsn := spans_new 0 free k hq hm
          have hlen' : (spansK 0 free (k + 1)).length = (spansK 0 free k).length + 1 := by rw [hsn]; simp
          have hcel : spCells (spansK 0 free (k + 1)) = spCells (spansK 0 free k) ++ [.int .i64 (k : Int), .int .i64 1] := by rw [hsn, spCells_app, Int.zero_add]; rfl
          rw [hm] at hprev
          generalize hS' : spansK 0 free (k + 1) = S' at *
          generalize spansK 0 free k = S at *
          have OWN := Lib.hid own
          have BEL := Lib.hid bel
          have HL := Lib.hid hlen'
          have HC := Lib.hid hcel
          have HS := Lib.hid hS'
          clear own bel hq hf hsn hlen' hcel hm hst hS'
          have hsplit : (decide (0 < (k : Int)) = false ∧ k < 1) ∨ (decide (0 < (k : Int)) = true ∧ 0 < k ∧ wr.cell? ⟨b, off + (k - 1), none⟩ = some (.bool false)) := by
            rcases Nat.eq_zero_or_pos k with h0 | h0
            · exact .inl ⟨by simp; omega, by omega⟩
            · exact .inr ⟨by simp; omega, h0, hprev h0⟩
          clear hprev
          rcases hsplit with ⟨d3, d4⟩ | ⟨d3, d4, d5⟩
          all_goals
            go_wp2_with (at_builtin; refine wpList_app2 (.tmp 42) (.tmp 45) 37 rfl rfl w.heap.size 30 (.agg #[.int .i64 0, .int .i64 0]) 16 und37 info30 rfl _ S.length (spCells S) rfl (OWN.out.alloc _) wr.heap.size 1 _ _ rfl (Bl.new _ _ _) ⟨rfl, rfl⟩ (by unfold maxLen; omega) (by omega) (by simp; omega) ?_)
            intro v3 w3 own3 g3
            have O3 := Lib.hid own3
            have B3 := Lib.hid ((BEL.out.alloc hws (.cells #[.int .i64 (k : Int), .int .i64 1] 30)).grown g3 (by simp; omega) (fun q hq => own_ge OWN.out hq (Nat.le_refl _)))
            clear own3 g3
            go_wp2_with (fail)
            go_roundg (free.length - (k + 1))
            case measure => omega
            case rel => exact ⟨k + 1, by omega, by go_num, by rw [HCN.out]; rfl, by rw [HS.out, HL.out, HC.out]; exact O3.out, B3.out⟩
        · obtain ⟨hcel, hget, hlen', hpos⟩ := spans_bump 0 free k hq hm
          have hk0 : 0 < k := by omega
          have d4 := hprev hk0
          have d3 : decide (0 < (k : Int)) = true := by simp; omega
          rw [show decide (0 < (st 0 free k).2) = true by simpa using hm] at d4
          have hmk : (st 0 free k).2 ≤ k := by omega
          generalize hS' : spansK 0 free (k + 1) = S' at *
          generalize spansK 0 free k = S at *
          generalize (st 0 free k).2 = m at *
          obtain ⟨a3, c3, rfl⟩ : ∃ a3 c3, u5 = .slice a3 S.length c3 := own_form own
          have own' := own
          obtain ⟨_, ⟨_, h0⟩ | ⟨g, cap3, cur, e1, hg, _⟩⟩ := own'
          · omega
          injection e1 with e1 e2 e3
          subst e1 e3
          have c5 := own.cellAt ((S.length - 1) * 2 + 1) (by omega)
          rw [hget] at c5
          have f5 := own.frozenAt ((S.length - 1) * 2 + 1)
          have hst2 := (own.stored ((S.length - 1) * 2 + 1) (.int .i64 ((m : Int) + 1))).1
          rw [← hcel] at hst2
          have OWN := Lib.hid own
          have HST := Lib.hid hst2
          have BEL := Lib.hid (bel.setCell (p := ⟨g, (S.length - 1) * 2 + 1, none⟩) hg (.int .i64 ((m : Int) + 1)))
          have HL := Lib.hid hlen'
          have HS := Lib.hid hS'
          clear own bel hq hf hlen' hcel hm hst hS' hprev hst2 hget
          go_wp2_with (fail)
          go_roundg (free.length - (k + 1))
          case measure => omega
          case rel => exact ⟨k + 1, by omega, by go_num, by rw [HCN.out]; rfl, by rw [HS.out, HL.out]; exact HST.out, BEL.out⟩
    · have e : k = free.length := by omega
      subst e
      obtain ⟨l1, l2, rfl⟩ := own_form own
      have OWN := Lib.hid own
      have BEL := Lib.hid bel
      have hz1 := bel.size
      clear own bel
      change Hid (wr.ownsRow w.heap.size 30 2 (.slice l1 (spans 0 free).length l2) (spans 0 free).length (spCells (spans 0 free))) at OWN
      have hk2 : (spansK 0 free free.length) = spans 0 free := rfl
      rw [List.take_length]
      go_wp2_with (fail)
      refine (spans_c wr p _ at_ fr (HR.out.keep BEL.out)).mono ?_
      rw [HSP.out]
      rintro e w3 ⟨⟨v', rfl, own⟩, bel⟩
      obtain ⟨m1, m2, rfl⟩ := own_form own
      have M3 := Lib.hid own
      have O3 := Lib.hid (ownsRow_fr OWN.out (Fr.of_below bel) (by simp))
      have B3 := Lib.hid (BEL.out.trans (bel.mono hz1))
      have hz3 := bel.size
      clear own bel
      rw [hk2]
      clear hk2
      go_wp2_with (fail)
      refine (free_c w3 p _ at_ fr (HR.out.keep B3.out)).mono ?_
      rw [HCT.out]
      rintro e w4 ⟨rfl, bel⟩
      have M4 := Lib.hid (ownsRow_fr M3.out (Fr.of_below bel) (by simp))
      have O4 := Lib.hid (ownsRow_fr O3.out (Fr.of_below bel) (by simp))
      have B4 := Lib.hid (B3.out.trans (bel.mono (by omega)))
      clear bel
      generalize spans 0 free = S at *
      have hne : (((free.count true : Nat) : Int) != ((free.count true : Nat) : Int)) = false := by simp
      go_wp2_with (fail)
      obtain ⟨wo, rfl⟩ : ∃ wo : World, wo = wr := ⟨_, rfl⟩
      go_loopg [9] S.length (fun q i wr => ∃ k : Nat, k + q = S.length ∧ i = .int .i64 (k : Int) ∧ Fr [] w4 wr)
      case atStart => exact ⟨0, by omega, rfl, Fr.refl _ _⟩
      case round =>
        obtain ⟨k, hk, rfl, fr⟩ := hrel
        by_cases hlt2 : k < S.length
        · have i4 : (k : Int) < (S.length : Int) := by omega
          have own1 := ownsRow_fr O4.out fr (by simp)
          have own2 := ownsRow_fr M4.out fr (by simp)
          obtain ⟨_, ⟨_, h0⟩ | ⟨g1, cap3, cur, e1, hg1, _⟩⟩ := id own1
          · omega
          obtain ⟨_, ⟨_, h0⟩ | ⟨g2, cap4, cur2, e2, hg2, _⟩⟩ := id own2
          · omega
          injection e1 with e1 e3 e4
          injection e2 with e2 e5 e6
          subst e1 e2 e4 e6
          obtain ⟨c1, c2⟩ := row_at own1 rfl k hlt2
          obtain ⟨c3, c4⟩ := row_at own2 rfl k hlt2
          have FR := Lib.hid fr
          generalize S[k].1 = x at *
          generalize S[k].2 = y at *
          have n1 : (x != x) = false := by simp
          have n2 : (y != y) = false := by simp
          clear own1 own2 fr
          go_wp2_with (fail)
          go_quiet (fail)
          go_wp2_with (fail)
          go_roundg (S.length - (k + 1))
          case measure => omega
          case rel => exact ⟨k + 1, by omega, by go_num, FR.out.drewN _⟩
        · have e : k = S.length := by omega
          subst e
          have FR := Lib.hid fr
          clear fr
          go_wp2_with (fail)
          go_ret
          exact ⟨rfl, B4.out.trans (FR.out.nil.mono B4.out.size)⟩
end Go.Proofs.Ytbkjiinnojnkhaa
