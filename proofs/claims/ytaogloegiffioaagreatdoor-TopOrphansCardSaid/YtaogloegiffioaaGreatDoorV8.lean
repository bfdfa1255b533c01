import Derived.Test.YtaogloegiffioaaGreatDoorV7
set_option linter.all false
namespace Go.Proofs.YtaogloegiffioaaGreatDoor.V
open Go.RowKit
def cnt : List Sec → Nat
  | [] => 0
  | s :: r => (if s.loose then 1 else 0) + cnt r
def Sec.fallen (s : Sec) (j : Nat) (keep : List Bool) : Sec := if s.loose && keep.getD j false then ⟨s.now, s.now, false⟩ else ⟨s.lasts, s.lasts, false⟩
def crashFrom : List Sec → Nat → List Bool → List Sec
  | [], _, _ => []
  | s :: r, j, keep => s.fallen j keep :: crashFrom r (j + if s.loose then 1 else 0) keep
def DM.crash (D : DM) (keep : List Bool) : DM := { secs := crashFrom D.secs 0 keep, calls := 0, lit := false, fuse := 0, dead := false }
theorem crashFrom_app : ∀ (a b : List Sec) (j : Nat) (keep : List Bool), crashFrom (a ++ b) j keep = crashFrom a j keep ++ crashFrom b (j + cnt a) keep
  | [], b, j, keep => by simp [crashFrom, cnt]
  | s :: r, b, j, keep => by
    simp only [List.cons_append, crashFrom, cnt]
    rw [crashFrom_app r b, Nat.add_assoc]
theorem crashFrom_len : ∀ (a : List Sec) (j : Nat) (keep : List Bool), (crashFrom a j keep).length = a.length
  | [], _, _ => rfl
  | s :: r, j, keep => by simp [crashFrom, crashFrom_len r]
theorem cnt_app : ∀ (a b : List Sec), cnt (a ++ b) = cnt a + cnt b
  | [], b => by simp [cnt]
  | s :: r, b => by simp only [List.cons_append, cnt]; rw [cnt_app r b, Nat.add_assoc]
theorem cnt_le : ∀ (a : List Sec), cnt a ≤ a.length
  | [] => by simp [cnt]
  | s :: r => by have := cnt_le r; simp only [cnt, List.length_cons]; split <;> omega
theorem crashFrom_ok : ∀ (a : List Sec) (j : Nat) (keep : List Bool), (∀ s ∈ a, s.Ok) → ∀ s ∈ crashFrom a j keep, s.Ok
  | [], _, _, _, _, h => by cases h
  | s :: r, j, keep, h, t, ht => by
    have hs := h s (by simp)
    rcases List.mem_cons.1 ht with rfl | ht
    · unfold Sec.fallen
      split
      · exact ⟨hs.1, hs.1⟩
      · exact ⟨hs.2, hs.2⟩
    · exact crashFrom_ok r _ keep (fun x hx => h x (by simp [hx])) t ht
def part (l : List Sec) (k : Nat) (keep : List Bool) : List Sec := crashFrom (l.take k) 0 keep ++ List.replicate (l.length - k) zeroSec
theorem part_len (l : List Sec) (k : Nat) (hk : k ≤ l.length) (keep : List Bool) : (part l k keep).length = l.length := by simp [part, crashFrom_len]; omega
theorem part_ok {l : List Sec} (h : ∀ s ∈ l, s.Ok) (k : Nat) (keep : List Bool) : ∀ s ∈ part l k keep, s.Ok := by
  intro s hs
  simp only [part, List.mem_append, List.mem_replicate] at hs
  rcases hs with hs | ⟨_, rfl⟩
  · exact crashFrom_ok _ _ _ (fun x hx => h x (List.mem_of_mem_take hx)) s hs
  · exact zeroSec_ok
theorem part_step (l : List Sec) (k : Nat) (hk : k < l.length) (keep : List Bool) : (part l k keep).set k ((l[k]).fallen (cnt (l.take k)) keep) = part l (k + 1) keep := by
  unfold part
  have h1 : (crashFrom (l.take k) 0 keep).length = k := by rw [crashFrom_len, List.length_take]; omega
  rw [List.take_succ_eq_append_getElem hk, crashFrom_app, List.set_append_right _ _ (by omega), h1, Nat.sub_self, Nat.zero_add]
  obtain ⟨m, hm⟩ : ∃ m, l.length - k = m + 1 := ⟨l.length - k - 1, by omega⟩
  rw [hm, List.replicate_succ, List.set_cons_zero, List.append_assoc, show l.length - (k + 1) = m by omega]
  rfl
theorem part_zero (l : List Sec) (keep : List Bool) : part l 0 keep = List.replicate l.length zeroSec := by simp [part, crashFrom]
theorem part_all (l : List Sec) (keep : List Bool) : part l l.length keep = crashFrom l 0 keep := by simp [part]
theorem cnt_step (l : List Sec) (k : Nat) (hk : k < l.length) : cnt (l.take (k + 1)) = cnt (l.take k) + if (l[k]).loose then 1 else 0 := by
  rw [List.take_succ_eq_append_getElem hk, cnt_app]
  rfl
theorem sec_store {w : World} {b : Nat} {L : List Sec} (hok : ∀ s ∈ L, s.Ok) (k : Nat) (hk : k < L.length) (s : Sec) (hs : s.Ok) (hb : Bl w b 253 (splice (secCells L) (k * 129) s.cells)) : Bl w b 253 (secCells (L.set k s)) := by
  have hoki := hok _ (List.getElem_mem hk)
  have := secCells_splice L hok k hk 0 s.cells (by rw [Sec.cells_len hs]; omega) s (by
    unfold splice
    rw [List.take_zero, List.nil_append, List.drop_of_length_le (by rw [Sec.cells_len hs, Sec.cells_len hoki]; omega), List.append_nil])
  rw [Nat.add_zero] at this
  rwa [this] at hb
theorem splice_all (cs vs : List Value) (h : vs.length = cs.length) : splice cs 0 vs = vs := by
  unfold splice
  rw [List.take_zero, List.nil_append, List.drop_of_length_le (by omega), List.append_nil]
theorem cells_now (s : Sec) (hs : s.Ok) : (s.cells.drop 0).take 64 = bv s.now := by
  have h1 : s.now.length = 64 := hs.1
  rw [List.drop_zero, Sec.cells, List.append_assoc, List.take_append_of_le_length (by rw [bv_len]; omega), List.take_of_length_le (by rw [bv_len]; omega)]
theorem cells_lasts (s : Sec) (hs : s.Ok) : (s.cells.drop 64).take 64 = bv s.lasts := by
  have h1 : s.now.length = 64 := hs.1
  have h2 : s.lasts.length = 64 := hs.2
  rw [Sec.cells, List.append_assoc, List.drop_left' (by rw [bv_len]; exact h1), List.take_append_of_le_length (by rw [bv_len]; omega), List.take_of_length_le (by rw [bv_len]; omega)]
theorem cells_loose (s : Sec) (hs : s.Ok) : s.cells[128]? = some (.bool s.loose) := by
  have h1 : s.now.length = 64 := hs.1
  have h2 : s.lasts.length = 64 := hs.2
  rw [Sec.cells, List.getElem?_append_right (by simp [bv_len]; omega)]
  simp [bv_len, h1, h2]
theorem crash_nil (w : World) (v : Value) : Calls Tryz.prog 123 #[.pointer none, v] w fun e w' => e = .returned (.pointer none) ∧ w = w' := by
  go_enter Tryz.func123, Tryz.ntmps123
  go_wp2
  go_ret
  exact ⟨rfl, rfl⟩
end Go.Proofs.YtaogloegiffioaaGreatDoor.V
