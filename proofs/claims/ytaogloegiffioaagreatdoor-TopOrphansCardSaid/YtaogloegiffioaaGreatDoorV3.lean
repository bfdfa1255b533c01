import Derived.Test.YtaogloegiffioaaGreatDoorV2
set_option linter.all false
namespace Go.Proofs.YtaogloegiffioaaGreatDoor.V
open Go.RowKit
def DM.burned (D : DM) : DM := { D with calls := D.calls + 1, fuse := if D.lit then D.fuse - 1 else D.fuse }
theorem burns_c (w : World) (p b : Nat) (D : DM) (h : DevAt w p b D) (hd : D.isDead = false) (hc : D.calls ≤ 1000000) :
    Calls Tryz.prog 249 #[.pointer (some ⟨p, 0, none⟩)] w fun e w' => e = .returned (.tuple #[]) ∧ DevAt w' p b D.burned ∧ Fr [p] w w' := by
  have hc' := h.cells
  obtain ⟨c0, c1, c2, c3, c4⟩ := hc'
  have f0 := h.1.free 0
  have f1 := h.1.free 1
  have f3 := h.1.free 3
  have hB := h.2.2.2.2.2
  have hne := h.ne
  have H := Lib.hid h
  clear h c0 c4
  obtain ⟨secs, calls, lit, fuse, dead⟩ := D
  simp only at c1 c2 c3 hc hB
  cases lit
  · go_enter Tryz.func249, Tryz.ntmps249
    go_wp2
    go_end0
    refine ⟨rfl, ⟨?_, ?_, ?_⟩, (Fr.refl _ _).setCell (by simp) _⟩
    · have := H.out.1.set 1 (.int .i64 ((calls : Int) + 1))
      exact this
    · exact H.out.2.1.setOther (by simpa using hne.symm) _
    · exact H.out.2.2
  · have hf : 1 ≤ fuse := by
      rcases Nat.eq_zero_or_pos fuse with h0 | h0
      · subst h0; simp [DM.isDead] at hd
      · exact h0
    clear hd
    go_enter Tryz.func249, Tryz.ntmps249
    go_wp2
    go_end0
    refine ⟨rfl, ⟨?_, ?_, ?_⟩, ((Fr.refl _ _).setCell (by simp) _).setCell (by simp) _⟩
    · have := (H.out.1.set 3 (.int .i64 ((fuse : Int) - 1))).set 1 (.int .i64 ((calls : Int) + 1))
      have e : ((fuse - 1 : Nat) : Int) = (fuse : Int) - 1 := by omega
      unfold DM.head DM.burned
      simp only [if_true, e]
      exact this
    · exact (H.out.2.1.setOther (by simpa using hne.symm) _).setOther (by simpa using hne.symm) _
    · obtain ⟨o1, o2, o3, o4⟩ := H.out.2.2
      exact ⟨o1, o2, o3, by simp [DM.burned]; omega⟩
def DM.fused (D : DM) (n : Int) : DM := { D with dead := D.isDead || n == 0, lit := decide (0 ≤ n), fuse := n.toNat }
theorem fuse_c (w : World) (p b : Nat) (D : DM) (h : DevAt w p b D) (n : Int) (hn : -9223372036854775808 ≤ n ∧ n ≤ 9223372036854775807) :
    Calls Tryz.prog 122 #[.pointer (some ⟨p, 0, none⟩), .int .i64 n] w fun e w' => e = .returned (.tuple #[]) ∧ DevAt w' p b (D.fused n) ∧ Fr [p] w w' := by
  have hc' := h.cells
  obtain ⟨c0, c1, c2, c3, c4⟩ := hc'
  have f4 := h.1.free 4
  have f2 := h.1.free 2
  have f3 := h.1.free 3
  have hne := h.ne
  have H := Lib.hid h
  clear h c0 c1
  have hdc := dead_c w p b D H.out
  have HD := Lib.hid hdc
  clear hdc
  cases hdd : D.isDead
  all_goals
    rw [hdd] at HD
    have HDD := Lib.hid hdd
    clear hdd
    rcases Int.lt_trichotomy n 0 with h | h | h
    all_goals
      first
        | subst h
        | (have hq : (n == 0) = false := by simp; omega)
      go_enter Tryz.func122, Tryz.ntmps122
      go_wp2_with (go_at_call 173; refine (HD.out).mono ?_; rintro e w' ⟨rfl, rfl⟩)
      go_end0
      refine ⟨rfl, ⟨?_, ?_, ?_⟩, (((Fr.refl _ _).setCell (by simp) _).setCell (by simp) _).setCell (by simp) _⟩
      · refine cast (congrArg (Bl _ p 149) ?_) (((H.out.1.set 4 _).set 2 _).set 3 _)
        simp [DM.head, DM.fused, HDD.out]
        try omega
      · exact ((H.out.2.1.setOther (by simpa using hne.symm) _).setOther (by simpa using hne.symm) _).setOther (by simpa using hne.symm) _
      · obtain ⟨o1, o2, o3, o4⟩ := H.out.2.2
        exact ⟨o1, o2, o3, by simp [DM.fused] <;> omega⟩
theorem fuse_nil (w : World) (n : Int) : Calls Tryz.prog 122 #[.pointer none, .int .i64 n] w fun e w' => e = .returned (.tuple #[]) ∧ w = w' := by
  go_enter Tryz.func122, Tryz.ntmps122
  go_wp2
  go_end0
  exact ⟨rfl, rfl⟩
def fresh (n : Nat) : DM := { secs := List.replicate n zeroSec, calls := 0, lit := false, fuse := 0, dead := false }
theorem madeSecs (n : Nat) : madeCells zeroSec.cells.toArray (n * 129) = (secCells (List.replicate n zeroSec)).toArray := by
  have hok : ∀ s ∈ List.replicate n zeroSec, s.Ok := fun s hs => by rw [(List.mem_replicate.1 hs).2]; exact zeroSec_ok
  apply Array.ext'
  apply List.ext_getElem
  · simp [madeCells, secCells_len _ hok]
  · intro i h1 h2
    have hi : i < n * 129 := by simpa [madeCells] using h1
    have hg := secCells_get _ hok (i / 129) (by simp; omega) (i % 129) (Nat.mod_lt _ (by omega))
    rw [show i / 129 * 129 + i % 129 = i by omega] at hg
    have h3 : i < (secCells (List.replicate n zeroSec)).length := by simpa using h2
    rw [List.getElem?_eq_getElem h3] at hg
    have h4 : zeroSec.cells.length = 129 := Sec.cells_len zeroSec_ok
    have h5 : i % 129 < zeroSec.cells.length := by omega
    simp only [List.getElem_replicate, List.getElem?_eq_getElem h5, Option.some.injEq] at hg
    simp only [madeCells, Array.toList_map, Array.toList_range, List.getElem_map, List.getElem_range]
    rw [hg]
    simp [h4]
    rw [List.getElem?_eq_getElem h5]
    rfl
theorem run_new (n : Int) (h0 : 1 ≤ n) (h1 : n ≤ 2048) (W : World) : (Instr.makeSlice 147 (.int .i64 n) (.int .i64 n)).run Tryz.prog W = .ok (.slice (some ⟨W.heap.size, 0, none⟩) n.toNat n.toNat) (W.alloc (.cells (secCells (List.replicate n.toNat zeroSec)).toArray 253)) := by
  have info253 : (Tryz.prog.info? 253).map (fun i => (i.zero, i.size, i.bytes)) = some (some (.agg zeroSec.cells.toArray), 129, 129) := by kernel_rfl
  obtain ⟨i0, hi, hz0, hz1, hz2⟩ := info_parts info253
  have h := run_make (P := Tryz.prog) W 147 253 i0 _ Tryz.underlying147 hi hz0 .i64 .i64 n n (by omega) (by omega) (by rw [hz2]; omega) (by omega)
  rw [hz1] at h
  rw [show (Value.agg zeroSec.cells.toArray).cells = zeroSec.cells.toArray from rfl, madeSecs] at h
  exact h
theorem size_alloc (w : World) (o : Obj) : (w.alloc o).heap.size = w.heap.size + 1 := by simp
theorem run_new' (n : Int) (h0 : 1 ≤ n) (h1 : n ≤ 2048) : ∃ (k : Nat) (cs : List Value), (∀ W : World, (Instr.makeSlice 147 (.int .i64 n) (.int .i64 n)).run Tryz.prog W = .ok (.slice (some ⟨W.heap.size, 0, none⟩) k k) (W.alloc (.cells cs.toArray 253))) ∧ Hid (k = n.toNat ∧ cs = secCells (List.replicate n.toNat zeroSec)) :=
  ⟨_, _, run_new n h0 h1, rfl, rfl⟩
theorem fresh_ok (n : Nat) (h0 : 1 ≤ n) (h1 : n ≤ 2048) : (fresh n).Ok :=
  ⟨fun s hs => by rw [(List.mem_replicate.1 hs).2]; exact zeroSec_ok, by simpa [fresh] using h0, by simpa [fresh] using h1, by simp [fresh]⟩
theorem new_c (w : World) (n : Int) :
    Calls Tryz.prog 44 #[.int .i64 n] w fun e w' => (∃ p b, e = .returned (.pointer (some ⟨p, 0, none⟩)) ∧ w.heap.size ≤ p ∧ w.heap.size ≤ b ∧ DevAt w' p b (fresh (min (max n 1) 2048).toNat)) ∧ Below w.heap.size w w' := by
  obtain ⟨m, hm⟩ : ∃ m, min (max n 1) 2048 = m := ⟨_, rfl⟩
  have h1 : 1 ≤ m := by omega
  have h2 : m ≤ 2048 := by omega
  obtain ⟨k, cs, hmk, hid⟩ := run_new' m h1 h2
  have HOK := Lib.hid (fresh_ok m.toNat (by omega) (by omega))
  rw [hm]
  have hcase : n < 1 ∧ m = 1 ∨ (1 ≤ n ∧ n ≤ 2048) ∧ m = n ∨ 2048 < n ∧ m = 2048 := by omega
  clear hm h1 h2
  obtain ⟨mk, hmk2⟩ : ∃ mk, Hid (mk = m) := ⟨m, rfl⟩
  rw [show m = mk from hmk2.out.symm] at HOK hid ⊢
  rcases hcase with ⟨h, rfl⟩ | ⟨⟨h, h'⟩, rfl⟩ | ⟨h, rfl⟩
  all_goals
    go_enter Tryz.func44, Tryz.ntmps44
    go_wp2
    go_ret
    obtain ⟨e1, e2⟩ := hid.out
    refine ⟨⟨w.heap.size + 1, w.heap.size, rfl, by omega, by omega, ?_, ?_, HOK.out⟩, ((Below.refl _ _).alloc (Nat.le_refl _) _).alloc (by simp) _⟩
    · have := Bl.new (w.alloc (.cells cs.toArray 253)) 149 [.slice (some ⟨w.heap.size, 0, none⟩) k k, .int .i64 0, .bool false, .int .i64 0, .bool false]
      rw [size_alloc] at this
      simp only [DM.head, fresh, List.length_replicate]
      rw [← e1]
      exact this
    · have := (Bl.new w 253 cs).alloc (.cells #[.slice (some ⟨w.heap.size, 0, none⟩) k k, .int .i64 0, .bool false, .int .i64 0, .bool false] 149)
      rw [e2] at this ⊢
      exact this
end Go.Proofs.YtaogloegiffioaaGreatDoor.V
