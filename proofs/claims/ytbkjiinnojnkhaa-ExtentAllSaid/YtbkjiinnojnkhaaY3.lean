import Derived.Test.YtbkjiinnojnkhaaY2
namespace Go.Proofs.Ytbkjiinnojnkhaa
open Go.RowKit
/-! ### Clone, Copy -/
theorem clone_c (w : World) (B : Nat) (ad : Addr) (n cap : Nat) (l : List Bool) (h : Sb w B (.slice (some ad) n cap) l) (hl : l.length ≤ 2048) (hB : B ≤ w.heap.size) :
    Calls Try.prog 20 #[.slice (some ad) n cap] w fun e w' => (∃ g c, e = .returned (.slice (some ⟨g, 0, none⟩) l.length c) ∧ w'.ownsRow w.heap.size 4 1 (.slice (some ⟨g, 0, none⟩) l.length c) l.length (tv l)) ∧ Below w.heap.size w w' := by
  have hne := Lib.run_eql_slice_nil (P := Try.prog)
  have own0 : (w.alloc (.cells #[] 4)).ownsRow w.heap.size 4 1 (.slice (some ⟨w.heap.size, 0, none⟩) 0 0) 0 [] :=
    ⟨rfl, .inr ⟨_, 0, #[], rfl, Nat.le_refl _, heap_alloc_new w _, Nat.le_refl _, by simp [maxLen], rfl, rfl⟩⟩
  have hsv : Sv (w.alloc (.cells #[] 4)) B 1 (.slice (some ad) n cap) l.length (tv l) := h.keep (Nat.le_refl _) fun b o hb => World.cell?_alloc_lt w _ ⟨b, o, none⟩ (by simp; omega)
  go_enter Try.func20, Try.ntmps20
  have HSV := Lib.hid hsv
  clear hsv
  go_wp2_with (at_builtin; refine wpList_app (.tmp 5) (.tmp 6) 26 rfl rfl w.heap.size 4 (.bool false) 1 und26' info4 rfl _ 0 [] rfl own0 _ l.length B (tv l) rfl HSV.out (tv_one _) ?a5 ?a6 ?a7 ?_)
  case a5 => unfold maxLen; omega
  case a6 => omega
  case a7 => simp
  intro v3 w3 own3 g3 hn3
  have hb : Below w.heap.size w w3 := ((Below.refl _ _).alloc (Nat.le_refl _) _).grown g3 (by simp) (fun k hk => by simp [Value.ownBlock] at hk; omega)
  have own4 := own3
  obtain ⟨_, ⟨rfl, _⟩ | ⟨g, c, cur, rfl, _⟩⟩ := own4
  · exact absurd (hn3 rfl) (by simp)
  have O := Lib.hid own3
  have HB := Lib.hid hb
  clear own3 hb g3 hn3 hne own0
  go_wp2_with (fail)
  go_ret
  exact ⟨⟨g, c, by simp, by have := O.out; simpa using this⟩, HB.out⟩
set_option maxHeartbeats 1000000 in
theorem copy_c (w : World) (p b cap : Nat) (ex : List Value) (at_ : Int) (free : List Bool) (h : RoomAt w p b cap ex at_ free) :
    Calls Try.prog 17 #[.pointer (some ⟨p, 0, none⟩)] w fun e w' => (∃ p' b' cap' ex', e = .returned (.pointer (some ⟨p', 0, none⟩)) ∧ w.heap.size ≤ p' ∧ w.heap.size ≤ b' ∧ RoomAt w' p' b' cap' ex' at_ free) ∧ Below w.heap.size w w' := by
  have c0 : w.cell? ⟨p, 0, none⟩ = some (.int .i64 at_) := h.head.cell 0
  have c1 : w.cell? ⟨p, 1, none⟩ = some (.slice (some ⟨b, 0, none⟩) free.length cap) := h.head.cell 1
  have hpl := h.head.lt
  have HC := Lib.hid (clone_c w.drew w.heap.size ⟨b, 0, none⟩ free.length cap free h.r.row.drew h.len (Nat.le_refl _))
  have hlo := h.lo
  have hhi := h.hi
  have hlen := h.len
  clear h
  go_enter Try.func17, Try.ntmps17
  go_wp2_with (fail)
  go_region_with (go_at_call 20; refine HC.out.mono ?_; rintro e w4 ⟨⟨g, c, rfl, own⟩, bel⟩; have c4 : w4.cell? ⟨p, 0, none⟩ = some (.int .i64 at_) := (bel.cell (p := ⟨p, 0, none⟩) hpl).trans c0; have OWN := Lib.hid own; have BEL := Lib.hid bel; clear own bel)
  all_goals
    go_wp2_with (fail)
    go_ret
    have own := OWN.out
    have bel : Below w.heap.size w w4 := ((Below.refl w.heap.size w).drew).trans BEL.out
    have own' := own
    obtain ⟨_, ⟨h1, _⟩ | ⟨g', c', cur, e1, hg, hh, hn, hc, hs, ht⟩⟩ := own'
    · cases h1
    cases e1
    refine ⟨⟨_, g, c, cur.toList.drop free.length, rfl, bel.size, hg, ?_⟩, bel.alloc bel.size _⟩
    have hb : Bl w4 g 4 (tv free ++ cur.toList.drop free.length) := by
      have : tv free ++ cur.toList.drop free.length = cur.toList := by
        rw [← ht, Nat.mul_one, List.take_append_drop]
      rw [this]
      exact hh
    exact ⟨Bl.new _ _ _, hb.alloc _, hlo, hhi, hlen, hn, hc⟩
/-! ### all of a row -/
theorem isAll_iff (at_ : Int) (free : List Bool) (x n : Int) (c : Bool) : isAll at_ free x n c = true ↔ 1 ≤ n ∧ at_ ≤ x ∧ x - at_ + n ≤ (free.length : Int) ∧ ∀ t, t < n.toNat → free[(x - at_).toNat + t]? = some c := by
  unfold isAll
  simp only [Bool.and_eq_true, decide_eq_true_eq, Bool.not_eq_true', ← Bool.not_eq_true, List.contains_iff_mem]
  constructor
  · rintro ⟨⟨h1, h2, h3⟩, h4⟩
    refine ⟨h1, h2, h3, fun t ht => ?_⟩
    have hlt : (x - at_).toNat + t < free.length := by omega
    rw [List.getElem?_eq_getElem hlt]
    congr 1
    cases hq : (free[(x - at_).toNat + t] == c)
    · exfalso
      apply h4
      have : (!c) = ((free.drop (x - at_).toNat).take n.toNat)[t]'(by simp; omega) := by
        rw [List.getElem_take, List.getElem_drop]
        revert hq
        cases c <;> cases free[(x - at_).toNat + t] <;> simp
      rw [this]
      exact List.getElem_mem _
    · simpa using hq
  · rintro ⟨h1, h2, h3, h4⟩
    refine ⟨⟨h1, h2, h3⟩, fun hm => ?_⟩
    obtain ⟨t, ht, e⟩ := List.getElem_of_mem hm
    have ht' : t < n.toNat := by simp at ht; omega
    have := h4 t ht'
    rw [List.getElem_take, List.getElem_drop] at e
    rw [List.getElem?_eq_getElem (by omega), e] at this
    cases c <;> simp at this
theorem isAll_at (at_ : Int) (free : List Bool) (i n : Nat) (c : Bool) (hn : 1 ≤ n) (h : ∀ t, t < n → free[i + t]? = some c) : isAll at_ free (at_ + (i : Int)) (n : Int) c = true := by
  rw [isAll_iff, show at_ + (i : Int) - at_ = (i : Int) by omega, Int.toNat_natCast, Int.toNat_natCast]
  have := h (n - 1) (by omega)
  obtain ⟨h1, _⟩ := List.getElem?_eq_some_iff.1 this
  exact ⟨by omega, by omega, by omega, h⟩
theorem setTo_at (at_ : Int) (free : List Bool) (i n : Nat) (c : Bool) (hn : 1 ≤ n) (h : ∀ t, t < n → free[i + t]? = some (!c)) : setTo at_ free (at_ + (i : Int)) (n : Int) c = fillAt free i n c := by
  unfold setTo
  rw [if_pos (isAll_at at_ free i n (!c) hn h), show at_ + (i : Int) - at_ = (i : Int) by omega, Int.toNat_natCast, Int.toNat_natCast]
theorem full_takeN (at_ : Int) (n a m : Nat) (hm : 1 ≤ m) (h : a + m ≤ n) : ∃ s, taken at_ (fullF n a) (m : Int) = some s ∧ s.1 = at_ + (a : Int) ∧ setTo at_ (fullF n a) s.1 (m : Int) false = fullF n (a + m) := by
  have hw : Win (fullF n a) a m := (rg_win n _ a m hm).2 ⟨by omega, fun t h1 h2 => by simp; omega⟩
  obtain ⟨s, h1, h2⟩ := taken_eq at_ (fullF n a) m a hm hw (fun j hj hw => by
    have := ((rg_win n _ j m hm).1 hw).2 j (by omega) (by omega)
    simp at this
    omega)
  refine ⟨s, h1, h2, ?_⟩
  rw [h2, setTo_win at_ (fullF n a) a m hm hw]
  unfold fullF
  rw [rg_fill _ _ _ _ _ (by omega)]
  refine rg_ext fun i _ => ?_
  by_cases h3 : a ≤ i ∧ i < a + m
  · rw [if_pos h3]; simp; omega
  · rw [if_neg h3]
    simp
    omega
theorem full_give (at_ : Int) (n a m : Nat) (hm : 1 ≤ m) (h : a + m ≤ n) : setTo at_ (fullF n (a + m)) (at_ + (a : Int)) (m : Int) true = fullF n a := by
  rw [setTo_at at_ _ a m true hm]
  · unfold fullF
    rw [rg_fill _ _ _ _ _ (by omega)]
    refine rg_ext fun i _ => ?_
    by_cases h3 : a ≤ i ∧ i < a + m
    · rw [if_pos h3]; simp; omega
    · rw [if_neg h3]
      simp
      omega
  · intro t ht
    unfold fullF
    rw [rg_get, if_pos (by omega)]
    simp
    omega
end Go.Proofs.Ytbkjiinnojnkhaa
