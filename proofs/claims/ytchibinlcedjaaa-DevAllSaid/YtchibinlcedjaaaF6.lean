import Derived.Test.YtchibinlcedjaaaF5
namespace Go.Proofs.Ytchibinlcedjaaa
open Go.RowKit
/-! ### DevAll: the plain law -/
def ofSecs (L : List Sec) (c : Nat) (f : Int) : WM := ⟨L.map (·.now), L.map (·.lasts), L.map (·.loose), c, f⟩
/-- The fuses agree. -/
def FuseRel (D : DM) (f : Int) : Prop := (D.isDead = true ∧ f = 0) ∨ (D.dead = false ∧ D.lit = false ∧ f = -1) ∨ (D.dead = false ∧ D.lit = true ∧ (D.fuse : Int) = f ∧ 0 < D.fuse)
structure Rel (D : DM) (m : WM) : Prop where
  is : m = ofSecs D.secs D.calls m.fuse
  fuse : FuseRel D m.fuse
  last : ∀ s ∈ D.secs, s.loose = false → s.now = s.lasts
theorem FuseRel.dead {D : DM} {f : Int} (h : FuseRel D f) : D.isDead = (f == 0) := by
  rcases h with ⟨h1, rfl⟩ | ⟨h1, h2, rfl⟩ | ⟨h1, h2, rfl, h4⟩
  · exact h1
  · unfold DM.isDead; rw [h1, h2]; rfl
  · unfold DM.isDead
    rw [h1, h2]
    have e1 : (D.fuse == 0) = false := by simp; omega
    have e2 : ((D.fuse : Int) == 0) = false := by simp; omega
    rw [e1, e2]
    rfl
theorem Rel.mt {D : DM} {m : WM} (h : Rel D m) : Mt D m := by
  have e := h.is
  have e1 : m.now = D.secs.map (·.now) := by rw [e]; rfl
  have e2 : m.loose = D.secs.map (·.loose) := by rw [e]; rfl
  have e3 : m.calls = D.calls := by rw [e]; rfl
  refine ⟨by rw [e1, List.length_map], fun i hi => ?_, fun i hi => ?_, e3.symm, h.fuse.dead⟩
  · rw [e1]; simp [List.getD, List.getElem?_eq_getElem hi]
  · rw [e2]; simp [List.getD, List.getElem?_eq_getElem hi]
theorem FuseRel.burned {D : DM} {f : Int} (h : FuseRel D f) (hd : D.isDead = false) (S : List Sec) : FuseRel { D.burned with secs := S } (if 0 < f then f - 1 else f) := by
  rcases h with ⟨h1, _⟩ | ⟨h1, h2, rfl⟩ | ⟨h1, h2, rfl, h4⟩
  · rw [h1] at hd; cases hd
  · rw [if_neg (by decide)]
    exact .inr (.inl ⟨h1, h2, rfl⟩)
  · rw [if_pos (by omega)]
    by_cases h5 : D.fuse = 1
    · refine .inl ⟨?_, by rw [h5]; rfl⟩
      unfold DM.isDead DM.burned
      simp [h2, h5]
    · refine .inr (.inr ⟨h1, h2, ?_, ?_⟩)
      · show (((if D.lit then D.fuse - 1 else D.fuse : Nat)) : Int) = _
        rw [if_pos h2]; omega
      · show 0 < (if D.lit then D.fuse - 1 else D.fuse)
        rw [if_pos h2]; omega
theorem Rel.write {D : DM} {m : WM} (h : Rel D m) (hd : D.isDead = false) (i : Nat) (hi : i < D.secs.length) (l : List UInt8) : Rel (D.write i l) (m.write i l) := by
  have e := h.is
  have e1 : m.now = D.secs.map (·.now) := by rw [e]; rfl
  have e2 : m.safe = D.secs.map (·.lasts) := by rw [e]; rfl
  have e3 : m.loose = D.secs.map (·.loose) := by rw [e]; rfl
  have e4 : m.calls = D.calls := by rw [e]; rfl
  have hm := modify_at D.secs i hi (·.put l)
  refine ⟨?_, ?_, ?_⟩
  · unfold WM.write WM.next ofSecs DM.write
    simp only [e1, e2, e3, e4, hm, List.map_set]
    have g1 : (D.secs.map (·.now)).getD i [] = (D.secs[i]).now := by simp [List.getD, List.getElem?_eq_getElem hi]
    rw [g1]
    have g2 : (D.secs.map (·.lasts)).set i ((D.secs[i]).put l).lasts = D.secs.map (·.lasts) := by
      rw [← List.map_set, show (D.secs.set i ((D.secs[i]).put l)).map (·.lasts) = (D.secs.map (·.lasts)).set i (D.secs[i]).lasts by rw [List.map_set]; rfl]
      apply List.ext_getElem?
      intro j
      rw [List.getElem?_set]
      by_cases hj : i = j
      · subst hj; simp [hi]
      · simp [hj]
    rw [g2]
    rfl
  · exact h.fuse.burned hd _
  · intro s hs hl
    unfold DM.write at hs
    simp only [hm] at hs
    rcases List.mem_or_eq_of_mem_set hs with h1 | h1
    · exact h.last s h1 hl
    · subst h1; cases hl
theorem Rel.flush {D : DM} {m : WM} (h : Rel D m) (hd : D.isDead = false) : Rel D.flush m.flush := by
  have e := h.is
  have e1 : m.now = D.secs.map (·.now) := by rw [e]; rfl
  have e4 : m.calls = D.calls := by rw [e]; rfl
  refine ⟨?_, h.fuse.burned hd _, ?_⟩
  · unfold WM.flush WM.next ofSecs DM.flush
    simp only [e1, e4, List.map_map, List.length_map]
    congr 1
    rw [show ((fun x : Sec => x.loose) ∘ Sec.flush) = fun _ => false from rfl, List.map_const']
  · intro s hs _
    obtain ⟨t, _, rfl⟩ := List.mem_map.1 hs
    rfl
def fallK (L : List Sec) (k : Nat) (kl : List Bool) : List Sec := crashFrom (L.take k) 0 kl ++ L.drop k
theorem fallK_step (L : List Sec) (k : Nat) (hk : k < L.length) (kl : List Bool) : (fallK L k kl).set k ((L[k]).fallen (cnt (L.take k)) kl) = fallK L (k + 1) kl := by
  unfold fallK
  have h1 : (crashFrom (L.take k) 0 kl).length = k := by rw [crashFrom_len, List.length_take]; omega
  rw [List.set_append_right _ _ (by omega), h1, Nat.sub_self, List.drop_eq_getElem_cons hk, List.set_cons_zero, List.take_succ_eq_append_getElem hk, crashFrom_app]
  simp [crashFrom]
theorem fallK_get (L : List Sec) (k : Nat) (hk : k < L.length) (kl : List Bool) : (fallK L k kl)[k]? = some L[k] := by
  unfold fallK
  have h1 : (crashFrom (L.take k) 0 kl).length = k := by rw [crashFrom_len, List.length_take]; omega
  rw [List.getElem?_append_right (by omega), h1, Nat.sub_self, List.drop_eq_getElem_cons hk]
  rfl
theorem cr_is (L : List Sec) (hlast : ∀ s ∈ L, s.loose = false → s.now = s.lasts) (c : Nat) (f : Int) (kl : List Bool) : ∀ k, k ≤ L.length → (ofSecs L c f).cr kl k = (ofSecs (fallK L k kl) c f, cnt (L.take k))
  | 0, _ => by simp [WM.cr, fallK, crashFrom, cnt]
  | k + 1, hk => by
    have hkl : k < L.length := by omega
    rw [WM.cr, cr_is L hlast c f kl k (by omega), ← fallK_step L k hkl kl, cnt_step L k hkl]
    have g := fallK_get L k hkl kl
    generalize fallK L k kl = L' at *
    generalize hs : L[k] = s at *
    have hs2 : s ∈ L := hs ▸ List.getElem_mem hkl
    have hk' : k < L'.length := by
      rcases Nat.lt_or_ge k L'.length with h | h
      · exact h
      · rw [List.getElem?_eq_none h] at g; cases g
    have gd : ∀ {α : Type} (F : Sec → α) (d : α), (L'.map F).getD k d = F s := by
      intro α F d
      simp [List.getD, g]
    unfold WM.cstep ofSecs
    simp only [gd]
    cases hb : s.loose
    · have hf : s.fallen (cnt (L.take k)) kl = s := by
        unfold Sec.fallen
        rw [hb]
        have := hlast s hs2 hb
        simp only [Bool.false_and, Bool.false_eq_true, if_false]
        cases s
        simp only at this hb
        subst this hb
        rfl
      have hset : L'.set k s = L' := by
        apply List.ext_getElem?
        intro j
        rw [List.getElem?_set]
        by_cases hj : k = j
        · subst hj; rw [if_pos rfl, if_pos hk', g]
        · rw [if_neg hj]
      simp [hf, hset]
    · cases hq : kl.getD (cnt (L.take k)) false
      · have hf : s.fallen (cnt (L.take k)) kl = ⟨s.lasts, s.lasts, false⟩ := by
          unfold Sec.fallen
          rw [hb, hq]
          rfl
        have hset : (L'.map (·.lasts)).set k s.lasts = L'.map (·.lasts) := by
          apply List.ext_getElem?
          intro j
          rw [List.getElem?_set]
          by_cases hj : k = j
          · subst hj
            have g' : L'[k] = s := Option.some.inj (by rw [← List.getElem?_eq_getElem hk']; exact g)
            simp [hk', g']
          · rw [if_neg hj]
        simp [hf, List.map_set, hset, g]
      · have hf : s.fallen (cnt (L.take k)) kl = ⟨s.now, s.now, false⟩ := by
          unfold Sec.fallen
          rw [hb, hq]
          rfl
        simp [hf, List.map_set, hk']
theorem Rel.crash {D : DM} {m : WM} (h : Rel D m) (kl : List Bool) : Rel (D.crash kl) (m.crash kl) := by
  have e := h.is
  have hn : m.now.length = D.secs.length := by rw [e]; simp [ofSecs]
  have hc := cr_is D.secs h.last D.calls m.fuse kl D.secs.length (Nat.le_refl _)
  rw [← e, ← hn] at hc
  have hfa : fallK D.secs m.now.length kl = crashFrom D.secs 0 kl := by
    unfold fallK
    rw [hn, List.take_length, List.drop_length, List.append_nil]
  refine ⟨?_, .inr (.inl ⟨rfl, rfl, rfl⟩), ?_⟩
  · unfold WM.crash
    rw [hc, hfa]
    rfl
  · intro s hs _
    have : ∀ (L : List Sec) (j : Nat), ∀ s ∈ crashFrom L j kl, s.now = s.lasts := by
      intro L
      induction L with
      | nil => intro j s hs; cases hs
      | cons x L ih =>
        intro j s hs
        rcases List.mem_cons.1 hs with rfl | hs
        · unfold Sec.fallen
          split <;> rfl
        · exact ih _ s hs
    exact this _ _ s hs
def WM.fused (m : WM) (x : Int) : WM := if m.isDead = true then m else { m with fuse := max (-1) x }
theorem Rel.fused {D : DM} {m : WM} (h : Rel D m) (x : Int) : Rel (D.fused x) (m.fused x) := by
  have hd := h.fuse.dead
  have e := h.is
  unfold WM.fused
  by_cases hm : m.isDead = true
  · rw [if_pos hm]
    have hm0 : m.fuse = 0 := by unfold WM.isDead at hm; simpa using hm
    refine ⟨e, .inl ⟨?_, hm0⟩, h.last⟩
    have : D.isDead = true := by rw [hd]; exact hm
    unfold DM.isDead DM.fused
    simp [this]
  · rw [if_neg hm]
    have hdf : D.isDead = false := by rw [hd]; simpa [WM.isDead] using hm
    refine ⟨?_, ?_, h.last⟩
    · show { m with fuse := max (-1) x } = ofSecs D.secs D.calls (max (-1) x)
      rw [e]; rfl
    · unfold FuseRel DM.isDead DM.fused
      simp only [hdf, Bool.false_or]
      rcases (by omega : x < 0 ∨ x = 0 ∨ 0 < x) with h1 | rfl | h1
      · refine .inr (.inl ⟨by simp; omega, by simp; omega, by omega⟩)
      · exact .inl ⟨rfl, rfl⟩
      · refine .inr (.inr ⟨by simp; omega, by simp; omega, by omega, by omega⟩)
end Go.Proofs.Ytchibinlcedjaaa
