import Derived.Test.YtjokghnlmaaejaaN7
import Derived.Test.YtjokghnlmaaejaaN5
namespace Go.Proofs.Ytjokghnlmaaejaa
open Go.RowKit
/-! ### law sorted -/
theorem okP_eq (p : PR) : okP p = (mayKey p.k && ofOk p.v) := rfl
theorem le_yes {p c : ByteArray} (h : lessB p c = true) : Op.bytesLess c.toList p.toList = false ∧ (c.toList == p.toList) = false := by
  rw [lessB_eq] at h
  have h1 : cmpS p c < 0 := by simpa using h
  have h2 := cmpS_swap p c
  constructor
  · have := lessB_eq c p
    rw [decide_eq_false (by omega)] at this
    exact this
  · refine bytes_ne fun e => ?_
    subst e
    rw [cmpS_self] at h1
    omega
theorem le_no {p c : ByteArray} (h : lessB p c = false) : Op.bytesLess c.toList p.toList = true ∨ (Op.bytesLess c.toList p.toList = false ∧ (c.toList == p.toList) = true) := by
  rw [lessB_eq] at h
  have h1 : ¬ cmpS p c < 0 := by simpa using h
  have h2 := cmpS_swap p c
  by_cases e : c = p
  · right
    subst e
    have := lessB_eq c c
    rw [cmpS_self] at this
    exact ⟨this, by simp⟩
  · left
    have h3 : cmpS p c ≠ 0 := fun h => e ((cmpS_eq _ _).1 h).symm
    have := lessB_eq c p
    rw [decide_eq_true (by omega)] at this
    exact this
set_option maxHeartbeats 2000000 in
theorem lawSorted_c (w : World) (v : Value) (l : List PR) (h : Sp w w.heap.size v l) :
    Calls Try.prog 14 #[v] w fun e w' => e = .returned (.bool (sortedL l)) ∧ Below w.heap.size w w' := by
  obtain ⟨a, cap, rfl, hl⟩ := h.form
  have H := Lib.hid h
  clear h
  go_enter Try.func14, Try.ntmps14
  go_wp2_with (fail)
  go_loopg [3] l.length (fun q i wr => ∃ k : Nat, k + q = l.length ∧ i = .int .i64 (k : Int) ∧ (∀ j, j < k → okAt l j = true) ∧ Below w.heap.size w wr)
  case atStart => exact ⟨0, by omega, rfl, by simp, Below.refl _ _⟩
  case round =>
    obtain ⟨k, hk, rfl, hok, bel⟩ := hrel
    have BEL := Lib.hid bel
    have hwz := bel.size
    by_cases hlt : k < l.length
    · obtain ⟨b, off, rfl, hb, c0, c1, c2, c3⟩ := H.out.at_ k hlt
      have i4 : (k : Int) < (l.length : Int) := by omega
      rw [← bel.cell (p := ⟨b, off + k * 4, none⟩) hb] at c0
      rw [← bel.cell (p := ⟨b, off + k * 4 + 1, none⟩) hb] at c1
      rw [← bel.cell (p := ⟨b, off + k * 4 + 2, none⟩) hb] at c2
      rw [← bel.cell (p := ⟨b, off + k * 4 + 3, none⟩) hb] at c3
      clear bel
      have d0 : ∀ x : OkW (Old wr), x.w.cell? ⟨b, off + k * 4, none⟩ = some (.string l[k].k) := Old.cell c0
      have d1 : ∀ x : OkW (Old wr), x.w.cell? ⟨b, off + k * 4 + 1, none⟩ = some (.int .i64 l[k].v.kind) := Old.cell c1
      have d2 : ∀ x : OkW (Old wr), x.w.cell? ⟨b, off + k * 4 + 2, none⟩ = some (.int .i64 l[k].v.n) := Old.cell c2
      have d3 : ∀ x : OkW (Old wr), x.w.cell? ⟨b, off + k * 4 + 3, none⟩ = some (.string l[k].v.s) := Old.cell c3
      have hokp := okP_eq l[k]
      have hno := okAt_not hlt
      have hkey := fun W : World => refKey_c W l[k].k
      have hval := fun W : World => refVal_c W l[k].v
      simp only [rawV] at hval
      have HK := Lib.hid hkey
      have HV := Lib.hid hval
      clear c0 c1 c2 c3 hkey hval
      go_upto_region 4 with (fail)
      cases hmk : mayKey l[k].k
      · rw [hmk] at HK
        have HS := Lib.hid (sortedL_no hlt (hno (by rw [hokp, hmk]; rfl)))
        clear hok hno hokp hmk HV
        generalize l[k].k = kk at *
        generalize l[k].v.kind = v1 at *
        generalize l[k].v.n = v2 at *
        generalize l[k].v.s = v3 at *
        refine wp_region_ok (Old wr) (by kernel_rfl) (by kernel_rfl) (Old.start wr) ?_
        repeat (go_big_quiet_step ((go_at_call 27; refine (HK.out _).mono ?_; rintro e w' ⟨rfl, rfl⟩; exact ⟨rfl, ⟨_, rfl⟩⟩)))
        refine wpQuiet_nil ?_
        rintro _ ⟨⟨w4, hok4⟩, rfl⟩
        clear d0 d1 d2 d3
        go_wp2_with (fail)
        go_ret
        exact ⟨by rw [HS.out]; rfl, BEL.out.trans (hok4.mono hwz)⟩
      · rw [hmk] at HK
        cases hov : ofOk l[k].v
        · rw [hov] at HV
          have HS := Lib.hid (sortedL_no hlt (hno (by rw [hokp, hmk, hov]; rfl)))
          clear hok hno hokp hmk hov
          generalize l[k].k = kk at *
          generalize l[k].v.kind = v1 at *
          generalize l[k].v.n = v2 at *
          generalize l[k].v.s = v3 at *
          refine wp_region_ok (Old wr) (by kernel_rfl) (by kernel_rfl) (Old.start wr) ?_
          repeat (go_big_quiet_step (first | (go_at_call 27; refine (HK.out _).mono ?_; rintro e w' ⟨rfl, rfl⟩; exact ⟨rfl, ⟨_, rfl⟩⟩) | (go_at_call 28; refine (HV.out _).mono ?_; rintro e w' ⟨rfl, bel⟩; exact ⟨rfl, ⟨_, Old.step _ bel⟩, rfl⟩)))
          refine wpQuiet_nil ?_
          rintro _ ⟨⟨w4, hok4⟩, rfl⟩
          clear d0 d1 d2 d3
          go_wp2_with (fail)
          go_ret
          exact ⟨by rw [HS.out]; rfl, BEL.out.trans (hok4.mono hwz)⟩
        · rw [hov] at HV
          have hp : okP l[k] = true := by rw [hokp, hmk, hov]; rfl
          clear hmk hov hokp
          rcases k with _ | j
          · have hnx : ∀ i, i < 0 + 1 → okAt l i = true := fun i hi => by
              have : i = 0 := by omega
              subst this
              rw [okAt_zero hlt, hp]
            have HN := Lib.hid hnx
            simp only [Nat.zero_mul, Nat.add_zero] at d0 d1 d2 d3
            clear hok hno hp hnx
            generalize l[0].k = kk at *
            generalize l[0].v.kind = v1 at *
            generalize l[0].v.n = v2 at *
            generalize l[0].v.s = v3 at *
            refine wp_region_ok (Old wr) (by kernel_rfl) (by kernel_rfl) (Old.start wr) ?_
            repeat (go_big_quiet_step (first | (go_at_call 27; refine (HK.out _).mono ?_; rintro e w' ⟨rfl, rfl⟩; exact ⟨rfl, ⟨_, rfl⟩⟩) | (go_at_call 28; refine (HV.out _).mono ?_; rintro e w' ⟨rfl, bel⟩; exact ⟨rfl, ⟨_, Old.step _ bel⟩, rfl⟩)))
            refine wpQuiet_nil ?_
            rintro _ ⟨⟨w4, hok4⟩, rfl⟩
            clear d0 d1 d2 d3
            go_wp2_with (fail)
            go_roundg (l.length - (0 + 1))
            case measure => omega
            case rel => exact ⟨0 + 1, by omega, by go_num, HN.out, BEL.out.trans (hok4.mono hwz)⟩
          · obtain ⟨b', off', e', hb', p0, _, _, _⟩ := H.out.at_ j (by omega)
            obtain ⟨rfl, rfl⟩ : b = b' ∧ off = off' := by injection e' with e'; injection e' with e1 e2; exact ⟨e1, e2⟩
            rw [← BEL.out.cell (p := ⟨b, off + j * 4, none⟩) hb] at p0
            have d5 : ∀ x : OkW (Old wr), x.w.cell? ⟨b, off + j * 4, none⟩ = some (.string l[j].k) := Old.cell p0
            have hs := okAt_succ hlt
            rw [hp, Bool.true_and] at hs
            have i5 : (j : Int) < (l.length : Int) := by omega
            cases hq : lessB l[j].k l[j + 1].k
            · have HS := Lib.hid (sortedL_no hlt (hs.trans hq))
              have hle := le_no hq
              clear hok hno hp hs hq p0 e'
              generalize l[j + 1].k = kk at *
              generalize l[j].k = kp at *
              generalize l[j + 1].v.kind = v1 at *
              generalize l[j + 1].v.n = v2 at *
              generalize l[j + 1].v.s = v3 at *
              rcases hle with hl2 | ⟨hl2, hl3⟩
              · refine wp_region_ok (Old wr) (by kernel_rfl) (by kernel_rfl) (Old.start wr) ?_
                repeat (go_big_quiet_step (first | (go_at_call 27; refine (HK.out _).mono ?_; rintro e w' ⟨rfl, rfl⟩; exact ⟨rfl, ⟨_, rfl⟩⟩) | (go_at_call 28; refine (HV.out _).mono ?_; rintro e w' ⟨rfl, bel⟩; exact ⟨rfl, ⟨_, Old.step _ bel⟩, rfl⟩)))
                refine wpQuiet_nil ?_
                rintro _ ⟨⟨w4, hok4⟩, rfl⟩
                clear d0 d1 d2 d3 d5
                go_wp2_with (fail)
                go_ret
                exact ⟨by rw [HS.out]; rfl, BEL.out.trans (hok4.mono hwz)⟩
              · refine wp_region_ok (Old wr) (by kernel_rfl) (by kernel_rfl) (Old.start wr) ?_
                repeat (go_big_quiet_step (first | (go_at_call 27; refine (HK.out _).mono ?_; rintro e w' ⟨rfl, rfl⟩; exact ⟨rfl, ⟨_, rfl⟩⟩) | (go_at_call 28; refine (HV.out _).mono ?_; rintro e w' ⟨rfl, bel⟩; exact ⟨rfl, ⟨_, Old.step _ bel⟩, rfl⟩)))
                refine wpQuiet_nil ?_
                rintro _ ⟨⟨w4, hok4⟩, rfl⟩
                clear d0 d1 d2 d3 d5
                go_wp2_with (fail)
                go_ret
                exact ⟨by rw [HS.out]; rfl, BEL.out.trans (hok4.mono hwz)⟩
            · have HN := Lib.hid (show ∀ i, i < j + 1 + 1 → okAt l i = true from fun i hi => by
                rcases (by omega : i < j + 1 ∨ i = j + 1) with h | h
                · exact hok i h
                · subst h; exact hs.trans hq)
              obtain ⟨hl2, hl3⟩ := le_yes hq
              clear hok hno hp hs hq p0 e'
              generalize l[j + 1].k = kk at *
              generalize l[j].k = kp at *
              generalize l[j + 1].v.kind = v1 at *
              generalize l[j + 1].v.n = v2 at *
              generalize l[j + 1].v.s = v3 at *
              refine wp_region_ok (Old wr) (by kernel_rfl) (by kernel_rfl) (Old.start wr) ?_
              repeat (go_big_quiet_step (first | (go_at_call 27; refine (HK.out _).mono ?_; rintro e w' ⟨rfl, rfl⟩; exact ⟨rfl, ⟨_, rfl⟩⟩) | (go_at_call 28; refine (HV.out _).mono ?_; rintro e w' ⟨rfl, bel⟩; exact ⟨rfl, ⟨_, Old.step _ bel⟩, rfl⟩)))
              refine wpQuiet_nil ?_
              rintro _ ⟨⟨w4, hok4⟩, rfl⟩
              clear d0 d1 d2 d3 d5
              go_wp2_with (fail)
              go_roundg (l.length - (j + 1 + 1))
              case measure => omega
              case rel => exact ⟨j + 1 + 1, by omega, by go_num, HN.out, BEL.out.trans (hok4.mono hwz)⟩
    · have e : k = l.length := by omega
      have hs := sortedL_yes (fun j hj => hok j (by omega))
      have HS := Lib.hid hs
      clear bel hok hs
      go_wp2_with (fail)
      go_ret
      exact ⟨by rw [HS.out]; rfl, BEL.out⟩
end Go.Proofs.Ytjokghnlmaaejaa
