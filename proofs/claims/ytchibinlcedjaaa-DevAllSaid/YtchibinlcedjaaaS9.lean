import Derived.Test.YtchibinlcedjaaaS8
namespace Go.Proofs.Ytchibinlcedjaaa
open Go.RowKit
theorem save_nil (w : World) (v : Value) : Calls Try.prog 33 #[.pointer none, v] w fun e w' => e = .returned (.int .i64 7) ∧ w = w' := by
  go_enter Try.func33, Try.ntmps33
  go_wp2_with (fail)
  go_ret
  exact ⟨rfl, rfl⟩
theorem save_long (w : World) (s : Nat) (v : Value) (l : List UInt8) (B : Nat) (hv : Sl w B v l) (hl : 40 < l.length) : Calls Try.prog 33 #[.pointer (some ⟨s, 0, none⟩), v] w fun e w' => e = .returned (.int .i64 1) ∧ w = w' := by
  obtain ⟨av, cv, rfl, _⟩ := Sv.form hv
  clear hv
  go_enter Try.func33, Try.ntmps33
  go_wp2_with (fail)
  go_ret
  exact ⟨rfl, rfl⟩
theorem Wrote.of_drew {w : World} {s p b : Nat} {at_ : Int} {D : DM} {x0 n0 : Int} {l0 : List UInt8} {x : Int} {n : Nat} {l : List UInt8} {e : Ending} {w' : World} (h : Wrote w.drew s p b at_ D x0 n0 l0 x n l e w') : Wrote w s p b at_ D x0 n0 l0 x n l e w' :=
  ⟨h.1, h.2.1, h.2.2.1, ((Fr.refl _ w).drew).trans h.2.2.2⟩
theorem SupX.drew {w : World} {s p : Nat} {at_ x0 n0 : Int} {l0 : List UInt8} (h : SupX w s p at_ x0 n0 l0) : SupX w.drew s p at_ x0 n0 l0 := by
  obtain ⟨tv, h⟩ := h
  exact ⟨tv, h.head.drew, h.text⟩
theorem save_c (w : World) (s p b : Nat) (D : DM) (at_ x0 : Int) (n0 : Nat) (l0 : List UInt8) (hs : SupX w s p at_ x0 n0 l0) (hD : DevAt w p b D) (hcl : D.calls ≤ 100000) (h0 : 0 ≤ at_) (h1 : at_ ≤ 4096)
    (hx0 : 0 ≤ x0) (hx1 : x0 ≤ 1) (hn : n0 ≤ 100000) (v : Value) (l : List UInt8) (hv : ∀ w', Fr [s, p, b] w w' → Sl w' w'.heap.size v l) (hl : l.length ≤ 40) :
    Calls Try.prog 33 #[.pointer (some ⟨s, 0, none⟩), v] w (Wrote w s p b at_ D x0 n0 l0 (1 - x0) (n0 + 1) l) := by
  obtain ⟨av, cv, rfl, _⟩ := Sv.form (hv w (Fr.refl _ _))
  have HC := Lib.hid (swrite_c w.drew s p b D at_ x0 n0 l0 hs.drew (hD.fr (Fr.refl [] w).drew (by simp) (by simp)) hcl h0 h1 (1 - x0) (by omega) (by omega) (n0 + 1) (by omega) _ l (fun w' f => hv w' (((Fr.refl _ w).drew).trans f)) hl)
  have c2 : w.drew.cell? ⟨s, 2, none⟩ = some (.int .i64 x0) := by obtain ⟨tv, h⟩ := hs; exact h.head.cell 2
  have c3 : w.drew.cell? ⟨s, 3, none⟩ = some (.int .i64 (n0 : Int)) := by obtain ⟨tv, h⟩ := hs; exact h.head.cell 3
  have hw1 : IntKind.wrap .i64 (1 - x0) = 1 - x0 := by
    simp [IntKind.wrap, IntKind.bits, IntKind.signed]
    omega
  have hw2 : IntKind.wrap .i64 ((n0 : Int) + 1) = ((n0 + 1 : Nat) : Int) := by
    simp [IntKind.wrap, IntKind.bits, IntKind.signed]
    omega
  clear hs hD hv
  go_enter Try.func33, Try.ntmps33
  go_upto_region 5 with (fail)
  go_region_with (go_at_call 41; refine HC.out.mono ?_; rintro e w6 h6; have H6 := Lib.hid h6.of_drew; obtain ⟨rfl, _⟩ := h6)
  all_goals
    go_wp2_with (fail)
    go_ret
    exact H6.out
end Go.Proofs.Ytchibinlcedjaaa
