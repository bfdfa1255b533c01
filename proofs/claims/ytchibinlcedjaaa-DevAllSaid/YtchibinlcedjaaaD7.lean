import Derived.Test.YtchibinlcedjaaaD6
namespace Go.Proofs.Ytchibinlcedjaaa
open Go.RowKit
def looseFrom : List Sec → Int → List Int
  | [], _ => []
  | s :: r, i => if s.loose then i :: looseFrom r (i + 1) else looseFrom r (i + 1)
theorem looseFrom_app : ∀ (a b : List Sec) (i : Int), looseFrom (a ++ b) i = looseFrom a i ++ looseFrom b (i + a.length)
  | [], b, i => by simp [looseFrom]
  | s :: r, b, i => by
    have := looseFrom_app r b (i + 1)
    have e : i + ((r.length : Int) + 1) = i + 1 + r.length := by omega
    cases h : s.loose <;> simp [looseFrom, h, this, e]
theorem looseFrom_le : ∀ (a : List Sec) (i : Int), (looseFrom a i).length ≤ a.length
  | [], i => by simp [looseFrom]
  | s :: r, i => by
    have := looseFrom_le r (i + 1)
    cases h : s.loose <;> simp [looseFrom, h] <;> omega
theorem looseFrom_step (l : List Sec) (k : Nat) (hk : k < l.length) : looseFrom (l.take (k + 1)) 0 = looseFrom (l.take k) 0 ++ if (l[k]).loose then [(k : Int)] else [] := by
  rw [List.take_succ_eq_append_getElem hk, looseFrom_app]
  have : ((l.take k).length : Int) = k := by rw [List.length_take]; omega
  rw [this]
  cases h : (l[k]).loose <;> simp [looseFrom, h]
def DM.loose (D : DM) : List Int := looseFrom D.secs 0
theorem sec_loose {w : World} {b : Nat} {L : List Sec} (hb : Bl w b 69 (secCells L)) (hok : ∀ s ∈ L, s.Ok) (k : Nat) (hk : k < L.length) : w.cell? ⟨b, k * 129 + 128, none⟩ = some (.bool (L[k]).loose) := by
  have hoki := hok _ (List.getElem_mem hk)
  have h1 : (L[k]).now.length = 64 := hoki.1
  have h2 : (L[k]).lasts.length = 64 := hoki.2
  rw [hb.cell, secCells_get _ hok k hk 128 (by omega), Sec.cells, List.getElem?_append_right (by simp [bv_len]; omega)]
  simp [bv_len, h1, h2]
theorem loose_nil (w : World) : Calls Try.prog 26 #[.pointer none] w fun e w' => e = .returned (.slice none 0 0) ∧ w = w' := by
  go_enter Try.func26, Try.ntmps26
  go_wp2
  go_ret
  exact ⟨rfl, rfl⟩
set_option maxHeartbeats 400000 in
theorem loose_c (w : World) (p b : Nat) (D : DM) (h : DevAt w p b D) :
    Calls Try.prog 26 #[.pointer (some ⟨p, 0, none⟩)] w fun e w' => (∃ v, e = .returned v ∧ w'.ownsRow w.heap.size 3 1 v D.loose.length (iv D.loose)) ∧ Below w.heap.size w w' := by
  obtain ⟨c0, c1, c2, c3, c4⟩ := h.cells
  have hlen := h.2.2.2.2.1
  have hp := h.1.lt
  have hbl := h.2.1.lt
  have H := Lib.hid h
  clear h c1 c2 c3 c4
  go_enter Try.func26, Try.ntmps26
  go_wp2_with (fail)
  go_loopg [3, 4, 12] D.secs.length (fun m v _ i wr => ∃ k, k + m = D.secs.length ∧ i = .int .i64 k ∧ wr.ownsRow w.heap.size 3 1 v (looseFrom (D.secs.take k) 0).length (iv (looseFrom (D.secs.take k) 0)) ∧ Below w.heap.size w wr)
  case atStart => exact ⟨0, by omega, rfl, ⟨rfl, .inl ⟨rfl, rfl⟩⟩, Below.refl _ _⟩
  case round =>
    obtain ⟨k, hk, rfl, own, bel⟩ := hrel
    by_cases hlt : k < D.secs.length
    · have c0' := (bel.cell (p := ⟨p, 0, none⟩) hp).trans c0
      have l0 := (bel.cell (p := ⟨b, k * 129 + 128, none⟩) hbl).trans (sec_loose H.out.2.1 H.out.2.2.1 k hlt)
      have hle := looseFrom_le (D.secs.take k) 0
      rw [List.length_take] at hle
      have hst := Lib.hid (looseFrom_step D.secs k hlt)
      have i1 : (k : Int) < (D.secs.length : Int) := by omega
      have hws := bel.size
      have OWN := Lib.hid own
      have BEL := Lib.hid bel
      clear own bel c0
      generalize looseFrom (D.secs.take k) 0 = L at *
      cases hl : (D.secs[k]).loose
      all_goals
        rw [hl] at l0 hst
        clear hl
        go_wp2_with (at_builtin; refine wpList_app (.tmp 23) (.tmp 25) 46 rfl rfl w.heap.size 3 (.int .i64 0) 8 Try.underlying46 info3 rfl u3 L.length (iv L) rfl (OWN.out.alloc _) _ 1 (wr.heap.size + 1) [.int .i64 (k : Int)] rfl ?a4 ?a5 ?a6 ?a7 ?a8 ?_)
      · go_roundg (D.secs.length - (k + 1))
        case measure => omega
        case rel =>
          refine ⟨k + 1, by omega, by go_num, ?_, BEL.out⟩
          rw [hst.out]
          simpa using OWN.out
      case a4 => exact (Bl.new wr 3 [.int .i64 (k : Int)]).sv 1 0 1 1 (by omega) (by simp) (Nat.le_refl _) (by simp [maxLen])
      case a5 => rfl
      case a6 => unfold maxLen; omega
      case a7 => omega
      case a8 => omega
      intro v3 w3 own3 g3 _
      have O3 := Lib.hid own3
      have B3 := Lib.hid ((BEL.out.alloc hws (.cells #[.int .i64 (k : Int)] 3)).grown g3 (by simp; omega) (fun q hq => own_ge OWN.out hq (Nat.le_refl _)))
      clear own3 g3
      go_wp2_with (fail)
      go_roundg (D.secs.length - (k + 1))
      case measure => omega
      case rel =>
        refine ⟨k + 1, by omega, by go_num, ?_, B3.out⟩
        rw [hst.out]
        have := O3.out
        simpa [iv] using this
    · have e : k = D.secs.length := by omega
      subst e
      rw [List.take_length] at own
      have OWN := Lib.hid own
      have BEL := Lib.hid bel
      clear own bel
      go_wp2_with (fail)
      go_ret
      exact ⟨⟨_, rfl, OWN.out⟩, BEL.out⟩
end Go.Proofs.Ytchibinlcedjaaa
