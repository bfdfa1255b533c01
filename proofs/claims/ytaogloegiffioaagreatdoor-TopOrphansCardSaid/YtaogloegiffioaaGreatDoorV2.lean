import Derived.Test.YtaogloegiffioaaGreatDoorV1
set_option linter.all false
namespace Go.Proofs.YtaogloegiffioaaGreatDoor.V
open Go.RowKit
structure DM where
  secs : List Sec
  calls : Nat
  lit : Bool
  fuse : Nat
  dead : Bool
def DM.head (D : DM) (b : Nat) : List Value := [.slice (some ⟨b, 0, none⟩) D.secs.length D.secs.length, .int .i64 (D.calls : Int), .bool D.lit, .int .i64 (D.fuse : Int), .bool D.dead]
def DM.Ok (D : DM) : Prop := (∀ s ∈ D.secs, s.Ok) ∧ 1 ≤ D.secs.length ∧ D.secs.length ≤ 2048 ∧ D.fuse ≤ 9223372036854775807
def DevAt (w : World) (p b : Nat) (D : DM) : Prop := Bl w p 149 (D.head b) ∧ Bl w b 253 (secCells D.secs) ∧ D.Ok
def DM.isDead (D : DM) : Bool := D.dead || D.lit && D.fuse == 0
def zeroSec : Sec := ⟨List.replicate 64 0, List.replicate 64 0, false⟩
theorem zeroSec_ok : zeroSec.Ok := ⟨rfl, rfl⟩
theorem zero253 : (Tryz.prog.info? 253).map (·.zero) = some (some (.agg zeroSec.cells.toArray)) := by kernel_rfl
theorem zero251 : (Tryz.prog.info? 251).map (·.zero) = some (some (.agg (bv (List.replicate 64 0)).toArray)) := by kernel_rfl
theorem size253 : (Tryz.prog.info? 253).map (·.size) = some 129 := by kernel_rfl
theorem size251 : (Tryz.prog.info? 251).map (·.size) = some 64 := by kernel_rfl
theorem info5 : (Tryz.prog.info? 5).map (fun i => (i.zero, i.size, i.bytes)) = some (some (.int .u8 0), 1, 1) := by kernel_rfl
theorem info3 : (Tryz.prog.info? 3).map (fun i => (i.zero, i.size, i.bytes)) = some (some (.int .i64 0), 1, 8) := by kernel_rfl
theorem size5 : (Tryz.prog.info? 5).map (·.size) = some 1 := by kernel_rfl
section
variable {w w' : World} {p b : Nat} {D : DM}
theorem DevAt.fr {S : List Nat} (h : DevAt w p b D) (f : Fr S w w') (hp : p ∉ S) (hb : b ∉ S) : DevAt w' p b D := ⟨h.1.fr f hp, h.2.1.fr f hb, h.2.2⟩
theorem DevAt.ne (h : DevAt w p b D) : p ≠ b := h.1.ne h.2.1 (by decide)
theorem DevAt.cells (h : DevAt w p b D) : w.cell? ⟨p, 0, none⟩ = some (.slice (some ⟨b, 0, none⟩) D.secs.length D.secs.length) ∧ w.cell? ⟨p, 1, none⟩ = some (.int .i64 (D.calls : Int)) ∧ w.cell? ⟨p, 2, none⟩ = some (.bool D.lit) ∧ w.cell? ⟨p, 3, none⟩ = some (.int .i64 (D.fuse : Int)) ∧ w.cell? ⟨p, 4, none⟩ = some (.bool D.dead) :=
  ⟨h.1.cell 0, h.1.cell 1, h.1.cell 2, h.1.cell 3, h.1.cell 4⟩
end
theorem dead_c (w : World) (p b : Nat) (D : DM) (h : DevAt w p b D) :
    Calls Tryz.prog 173 #[.pointer (some ⟨p, 0, none⟩)] w fun e w' => e = .returned (.bool D.isDead) ∧ w = w' := by
  obtain ⟨c0, c1, c2, c3, c4⟩ := h.cells
  clear h c0 c1
  obtain ⟨secs, calls, lit, fuse, dead⟩ := D
  simp only at c2 c3 c4
  have hf : ((fuse : Int) == 0) = (fuse == 0) := by rw [Bool.eq_iff_iff]; simp
  cases dead <;> cases lit
  all_goals
    go_enter Tryz.func173, Tryz.ntmps173
    go_wp2
    go_ret
    simp [DM.isDead]
theorem dead_nil (w : World) : Calls Tryz.prog 173 #[.pointer none] w fun e w' => e = .returned (.bool true) ∧ w = w' := by
  go_enter Tryz.func173, Tryz.ntmps173
  go_wp2
  go_ret
  exact ⟨rfl, rfl⟩
theorem len_c (w : World) (p b : Nat) (D : DM) (h : DevAt w p b D) :
    Calls Tryz.prog 77 #[.pointer (some ⟨p, 0, none⟩)] w fun e w' => e = .returned (.int .i64 (D.secs.length : Int)) ∧ w = w' := by
  obtain ⟨c0, c1, c2, c3, c4⟩ := h.cells
  clear h c1 c2 c3 c4
  go_enter Tryz.func77, Tryz.ntmps77
  go_wp2
  go_ret
  exact ⟨rfl, rfl⟩
theorem len_nil (w : World) : Calls Tryz.prog 77 #[.pointer none] w fun e w' => e = .returned (.int .i64 0) ∧ w = w' := by
  go_enter Tryz.func77, Tryz.ntmps77
  go_wp2
  go_ret
  exact ⟨rfl, rfl⟩
theorem at_in (w : World) (p b : Nat) (D : DM) (h : DevAt w p b D) (i : Int) (h0 : 0 ≤ i) (h1 : i < D.secs.length) :
    Calls Tryz.prog 248 #[.pointer (some ⟨p, 0, none⟩), .int .i64 i] w fun e w' => e = .returned (.int .i64 0) ∧ w = w' := by
  obtain ⟨c0, c1, c2, c3, c4⟩ := h.cells
  clear h c1 c2 c3 c4
  go_enter Tryz.func248, Tryz.ntmps248
  go_wp2
  go_ret
  exact ⟨rfl, rfl⟩
theorem at_out (w : World) (p b : Nat) (D : DM) (h : DevAt w p b D) (i : Int) (h1 : i < 0 ∨ (D.secs.length : Int) ≤ i) :
    Calls Tryz.prog 248 #[.pointer (some ⟨p, 0, none⟩), .int .i64 i] w fun e w' => e = .returned (.int .i64 3) ∧ w = w' := by
  obtain ⟨c0, c1, c2, c3, c4⟩ := h.cells
  clear h c1 c2 c3 c4
  by_cases h2 : i < 0
  · go_enter Tryz.func248, Tryz.ntmps248
    go_wp2
    go_ret
    exact ⟨rfl, rfl⟩
  · have h3 : (D.secs.length : Int) ≤ i := by omega
    clear h1
    go_enter Tryz.func248, Tryz.ntmps248
    go_wp2
    go_ret
    exact ⟨rfl, rfl⟩
theorem at_nil (w : World) (i : Int) : Calls Tryz.prog 248 #[.pointer none, .int .i64 i] w fun e w' => e = .returned (.int .i64 7) ∧ w = w' := by
  go_enter Tryz.func248, Tryz.ntmps248
  go_wp2
  go_ret
  exact ⟨rfl, rfl⟩
end Go.Proofs.YtaogloegiffioaaGreatDoor.V
