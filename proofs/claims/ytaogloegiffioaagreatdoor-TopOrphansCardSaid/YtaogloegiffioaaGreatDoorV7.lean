import Derived.Test.YtaogloegiffioaaGreatDoorV6
set_option linter.all false
namespace Go.Proofs.YtaogloegiffioaaGreatDoor.V
open Go.RowKit
def looseFrom : List Sec → Int → List Int
  | [], _ => []
  | s :: r, i => if s.loose then i :: looseFrom r (i + 1) else looseFrom r (i + 1)
theorem looseFrom_app : ∀ (a b : List Sec) (i : Int), looseFrom (a ++ b) i = looseFrom a i ++ looseFrom b (i + a.length)
  | [], b, i => by simp [looseFrom]
  | s :: r, b, i => by
    have := looseFrom_app r b (i + 1)
    have e : i + ((r.length : Int) + 1) = i + 1 + r.length := by omega
    cases h : s.loose <;> simp [looseFrom, h, this, e]
theorem looseFrom_le : ∀ (a : List Sec) (i : Int), (looseFrom a i).length ≤ a.length
  | [], i => by simp [looseFrom]
  | s :: r, i => by
    have := looseFrom_le r (i + 1)
    cases h : s.loose <;> simp [looseFrom, h] <;> omega
theorem looseFrom_step (l : List Sec) (k : Nat) (hk : k < l.length) : looseFrom (l.take (k + 1)) 0 = looseFrom (l.take k) 0 ++ if (l[k]).loose then [(k : Int)] else [] := by
  rw [List.take_succ_eq_append_getElem hk, looseFrom_app]
  have : ((l.take k).length : Int) = k := by rw [List.length_take]; omega
  rw [this]
  cases h : (l[k]).loose <;> simp [looseFrom, h]
def DM.loose (D : DM) : List Int := looseFrom D.secs 0
theorem sec_loose {w : World} {b : Nat} {L : List Sec} (hb : Bl w b 253 (secCells L)) (hok : ∀ s ∈ L, s.Ok) (k : Nat) (hk : k < L.length) : w.cell? ⟨b, k * 129 + 128, none⟩ = some (.bool (L[k]).loose) := by
  have hoki := hok _ (List.getElem_mem hk)
  have h1 : (L[k]).now.length = 64 := hoki.1
  have h2 : (L[k]).lasts.length = 64 := hoki.2
  rw [hb.cell, secCells_get _ hok k hk 128 (by omega), Sec.cells, List.getElem?_append_right (by simp [bv_len]; omega)]
  simp [bv_len, h1, h2]
end Go.Proofs.YtaogloegiffioaaGreatDoor.V
