import Derived.Test.YtbkjiinnojnkhaaX1
import Derived.Lib.SliceRun
import Derived.Deep.RegionLaw
namespace Go.Proofs.Ytbkjiinnojnkhaa
open Go.RowKit
/-- A slice of bools. -/
def Sb (w : World) (B : Nat) (v : Value) (l : List Bool) : Prop := Sv w B 1 v l.length (tv l)
theorem Sb.at_ {w : World} {B : Nat} {a : Option Addr} {m cap : Nat} {l : List Bool} (h : Sb w B (.slice a m cap) l) (k : Nat) (hk : k < l.length) : ∃ b off, a = some ⟨b, off, none⟩ ∧ b < B ∧ w.cell? ⟨b, off + k, none⟩ = some (.bool l[k]) := by
  obtain ⟨b, off, e, hb, hc⟩ := Sv.at_ h (by simp [tv]; omega)
  refine ⟨b, off, e, hb, ?_⟩
  rw [hc k (by simpa [tv] using hk)]
  simp [tv]
theorem tv_one (l : List Bool) : ∀ u ∈ tv l, u.oneCell' = true := by
  intro u hu
  simp only [tv, List.mem_map] at hu
  obtain ⟨c, _, rfl⟩ := hu
  rfl
theorem info4 : (Try.prog.info? 4).map (fun i => (i.zero, i.size, i.bytes)) = some (some (.bool false), 1, 1) := by kernel_rfl
theorem size4 : (Try.prog.info? 4).map (·.size) = some 1 := by kernel_rfl
theorem und26 : Try.prog.underlying 26 = some (.slice (Try.prog.elem 26)) := by kernel_rfl
theorem elem26 : Try.prog.elem 26 = 4 := by kernel_rfl
theorem und26' : Try.prog.underlying 26 = some (.slice 4) := by kernel_rfl

/-! ### slices.Index, slices.Contains -/
theorem index_c (w : World) (v : Value) (l : List Bool) (c : Bool) (h : Sb w w.heap.size v l) :
    Calls Try.prog 26 #[v, .bool c] w fun e w' => (∃ z : Int, e = .returned (.int .i64 z) ∧ decide (z ≥ 0) = l.contains c) ∧ w = w' := by
  obtain ⟨a, cap, rfl, hl⟩ := h.form
  have H := Lib.hid h
  clear h
  go_enter Try.func26, Try.ntmps26
  go_wp2_with (fail)
  go_loopg [5, 8] l.length (fun q _ i wr => ∃ k : Nat, k + q = l.length ∧ i = .int .i64 (k : Int) ∧ (l.take k).contains c = false ∧ w = wr)
  case atStart => exact ⟨0, by omega, rfl, by simp, rfl⟩
  case round =>
    obtain ⟨k, hk, rfl, hc, rfl⟩ := hrel
    by_cases hlt : k < l.length
    · obtain ⟨b, off, rfl, hb, c1⟩ := H.out.at_ k hlt
      have hn : (l.take (k + 1)).contains c = ((l.take k).contains c || c == l[k]) := by
        rw [List.take_succ_eq_append_getElem hlt, List.contains_append]
        cases c <;> cases l[k] <;> simp
      have hin : l.contains c = true ∨ (c == l[k]) = false := by
        by_cases e : c = l[k]
        · left
          rw [e]
          simp
        · right
          simpa using e
      have i4 : (k : Int) < (l.length : Int) := by omega
      rw [hc, Bool.false_or] at hn
      generalize l[k] = x at *
      cases hx : (c == x)
      · rw [hx] at hn
        have HN := Lib.hid hn
        clear hn hin hc
        go_wp2_with (fail)
        go_roundg (l.length - (k + 1))
        case measure => omega
        case rel => exact ⟨k + 1, by omega, by go_num, HN.out, rfl⟩
      · rw [hx] at hin
        have hin2 : l.contains c = true := by simpa using hin
        have HN := Lib.hid hin2
        clear hn hin hc hin2
        go_wp2_with (fail)
        go_ret
        exact ⟨⟨_, rfl, by rw [HN.out]; simp⟩, rfl⟩
    · have e : k = l.length := by omega
      subst e
      rw [List.take_length] at hc
      have HN := Lib.hid hc
      clear hc
      go_wp2_with (fail)
      go_ret
      exact ⟨⟨_, rfl, by rw [HN.out]; simp⟩, rfl⟩
theorem contains_c (w : World) (v : Value) (l : List Bool) (c : Bool) (h : Sb w w.heap.size v l) :
    Calls Try.prog 25 #[v, .bool c] w fun e w' => e = .returned (.bool (l.contains c)) ∧ w = w' := by
  have HI := Lib.hid (index_c w v l c h)
  clear h
  go_enter Try.func25, Try.ntmps25
  go_wp2_with (fail)
  refine HI.out.mono ?_
  rintro e w' ⟨⟨z, rfl, hz⟩, rfl⟩
  go_wp2_with (fail)
  go_ret
  refine ⟨?_, rfl⟩
  rw [← hz]
  first | rfl | simp_all

/-! ### slices.Repeat -/
theorem madeTv (n : Nat) : (madeCells (Value.bool false).cells (n * 1)) = (tv (List.replicate n false)).toArray := by
  apply Array.ext'
  apply List.ext_getElem
  · simp [madeCells, tv]
  · intro i h1 h2
    simp [madeCells, tv, Value.cells, Nat.mod_one]
theorem run_make_bools (n : Nat) (hn : n ≤ 4096) (W : World) : (Instr.makeSlice 26 (.int .i64 (n : Int)) (.int .i64 (n : Int))).run Try.prog W = .ok (.slice (some ⟨W.heap.size, 0, none⟩) n n) (W.alloc (.cells (tv (List.replicate n false)).toArray 4)) := by
  obtain ⟨i0, hi, hz0, hz1, hz2⟩ := info_parts info4
  have h := run_make (P := Try.prog) W 26 4 i0 (.bool false) und26' hi hz0 .i64 .i64 n n (by omega) (by omega) (by rw [hz2]; omega) (by omega)
  rw [hz1, madeTv, Int.toNat_natCast] at h
  exact h
theorem run_from (g : Nat) (k n : Nat) (hk : k < n) (W : World) : (Instr.slice 26 (.slice (some ⟨g, 0, none⟩) n n) (some (.int .i64 (k : Int))) none none).run Try.prog W = .ok (.slice (some ⟨g, k, none⟩) (n - k) (n - k)) W := by
  obtain ⟨i0, hi, hz0, hz1, hz2⟩ := info_parts info4
  rw [run_slice_l W 26 _ n n und26 .i64 k (by omega) (by omega), elem26]
  have : (Addr.add ⟨g, 0, none⟩ k) = ⟨g, k, none⟩ := by rw [add_at, Nat.zero_add]
  simp [sizeOf, typeInfo, hi, hz1, sliced, Result.andThen, this]
  intro e
  have : k = 0 := by omega
  exact this.symm
theorem run_till (g : Nat) (k n : Nat) (hk : k ≤ n) (W : World) : (Instr.slice 26 (.slice (some ⟨g, 0, none⟩) n n) none (some (.int .i64 (k : Int))) none).run Try.prog W = .ok (.slice (some ⟨g, 0, none⟩) k n) W := by
  obtain ⟨i0, hi, hz0, hz1, hz2⟩ := info_parts info4
  rw [run_slice_h W 26 _ n n und26 .i64 k (by omega) (by omega), elem26]
  simp [sizeOf, typeInfo, hi, hz1, sliced, Result.andThen, Addr.add]
def fillTo (n k : Nat) : List Bool := List.replicate k true ++ List.replicate (n - k) false
theorem fill_step (n k j : Nat) (h : k + j ≤ n) : splice (tv (fillTo n k)) k (tv (List.replicate j true)) = tv (fillTo n (k + j)) := by
  unfold splice fillTo tv
  simp only [List.map_append, List.map_replicate, List.length_replicate]
  rw [List.take_left' (by simp), List.drop_append]
  simp only [List.length_replicate, List.drop_replicate]
  rw [← List.append_assoc, show k - (k + j) = 0 by omega, show n - k - (k + j - k) = n - (k + j) by omega]
  simp
set_option maxHeartbeats 1000000 in
theorem repeat_c (w : World) (v : Value) (n : Nat) (hn : n ≤ 2048) (h : Sb w w.heap.size v [true]) :
    Calls Try.prog 18 #[v, .int .i64 (n : Int)] w fun e w' => ∃ g, e = .returned (.slice (some ⟨g, 0, none⟩) n n) ∧ w.heap.size ≤ g ∧ Bl w' g 4 (tv (List.replicate n true)) ∧ Below w.heap.size w w' := by
  obtain ⟨a, cap, rfl, _⟩ := h.form
  have H := Lib.hid h
  clear h
  have HM := Lib.hid (mul_c 1 n (by omega) (by omega) w)
  rw [Nat.one_mul, Nat.div_eq_of_lt (by omega), Nat.mod_eq_of_lt (by omega)] at HM
  have hmk := run_make_bools n (by omega)
  go_enter Try.func18, Try.ntmps18
  have hbl : Bl (w.alloc (.cells (tv (List.replicate n false)).toArray 4)) w.heap.size 4 (tv (List.replicate n false)) := Bl.new _ _ _
  have hsv : Sv (w.alloc (.cells (tv (List.replicate n false)).toArray 4)) w.heap.size 1 (.slice a 1 cap) 1 (tv [true]) := H.out.keep (Nat.le_refl _) fun b o hb => World.cell?_alloc_lt w _ ⟨b, o, none⟩ (by simp; omega)
  have hst : splice (tv (List.replicate n false)) 0 ((tv [true]).take n) = tv (fillTo n (Nat.min 1 n)) := by
    rcases Nat.eq_zero_or_pos n with rfl | h0
    · rfl
    · have := fill_step n 0 1 (by omega)
      rw [show Nat.min 1 n = 0 + 1 from Nat.min_eq_left (by omega : 1 ≤ n), ← this]
      simp [fillTo, tv, List.take_of_length_le (show [Value.bool true].length ≤ n by simp; omega)]
  have hm1 : (0 ≤ Nat.min 1 n ∧ Nat.min 1 n ≤ n) ∧ (n = 0 ∨ 1 ≤ Nat.min 1 n) := by
    rcases Nat.eq_zero_or_pos n with rfl | h0
    · simp
    · rw [show Nat.min 1 n = 1 from Nat.min_eq_left (by omega : 1 ≤ n)]; omega
  have HBL := Lib.hid hbl
  have HSV := Lib.hid hsv
  have HST := Lib.hid hst
  have FR0 := Lib.hid ((Below.refl w.heap.size w).alloc (Nat.le_refl _) (.cells (tv (List.replicate n false)).toArray 4))
  clear hbl hsv hst
  generalize hm1e : Nat.min 1 n = m1 at *
  go_wp2_with (first | (go_at_call 21; refine (HM.out).mono ?_; rintro e w' ⟨rfl, rfl⟩) | (refine wpList_copy_seg (.tmp 31) (.tmp 32) 26 26 rfl rfl 4 und26' size4 w.heap.size 0 n n 4 (tv (List.replicate n false)) rfl HBL.out _ _ 1 (tv [true]) rfl HSV.out (tv_one _) (by simp [tv]) ?_))
  rw [HST.out]
  intro w2 hb2 f2
  have HB2 := Lib.hid hb2
  have BEL2 := Lib.hid (FR0.out.trans (f2.below (B := w.heap.size) (by simp) (by simp)))
  clear hb2 f2 hm1e hmk HBL HSV HST FR0 H HM
  go_wp2_with (fail)
  go_loopg [8] n (fun q i wr => ∃ k : Nat, (n ≤ k + q ∧ k ≤ n) ∧ i = .int .i64 (k : Int) ∧ (n = 0 ∨ 1 ≤ k) ∧ Bl wr w.heap.size 4 (tv (fillTo n k)) ∧ Below w.heap.size w wr)
  case atStart => exact ⟨m1, by omega, rfl, hm1.2, HB2.out, BEL2.out⟩
  case round =>
    obtain ⟨k, hk, rfl, hk1, hb, bel⟩ := hrel
    by_cases hlt : k < n
    · have r1 := run_from w.heap.size k n hlt
      have r2 := run_till w.heap.size k n (by omega)
      have hj : ∃ j, min k (n - k) = j ∧ 1 ≤ j ∧ k + j ≤ n := ⟨_, rfl, by omega, by omega⟩
      obtain ⟨j, hj2, hj3, hj4⟩ := hj
      have hst := fill_step n k j hj4
      have hcs : ∀ (i : Nat) (v : Value), (tv (List.replicate j true))[i]? = some v → wr.drew.cell? (Addr.add ⟨w.heap.size, 0, none⟩ i) = some v := by
        intro i v hv
        rw [add_at, Nat.zero_add, hb.drew.cell]
        obtain ⟨hi, rfl⟩ := List.getElem?_eq_some_iff.1 hv
        have hi' : i < j := by simpa [tv] using hi
        have : i < k := by omega
        simp [tv, fillTo, List.getElem?_append, this]
      have hlen : (tv (List.replicate j true)).length = Nat.min k (n - k) := by
        rw [tv_len, List.length_replicate]; exact hj2.symm
      have hfit : k + (tv (List.replicate j true)).length ≤ (tv (fillTo n k)).length := by
        simp [tv, fillTo]; omega
      have hjl : (tv (List.replicate j true)).length = j := by simp [tv]
      have HB := Lib.hid hb
      have HCS := Lib.hid hcs
      have HST := Lib.hid hst
      have HLEN := Lib.hid hlen
      have HFIT := Lib.hid hfit
      have HJL := Lib.hid hjl
      have HW := Lib.hid (show IntKind.i64.wrap ((k : Int) + (j : Int)) = ((k + j : Nat) : Int) by rw [IntWalk.i64_in _ ⟨by omega, by omega⟩]; omega)
      have BEL := Lib.hid bel
      clear hb hcs hst bel hlen hfit hj2 hjl
      go_wp2_with (fail)
      go_region_law (refine step_copy_splice rfl (.tmp 41) (.tmp 44) 26 26 rfl 4 und26' size4 (some ⟨w.heap.size, k, none⟩) (some ⟨w.heap.size, 0, none⟩) (n - k) (n - k) k n (by simp [Act.eval, Act.put]) (by simp [Act.eval, Act.put]) w.heap.size k (tv (fillTo n k)) 4 HB.out.drew (tv (List.replicate j true)) HLEN.out (fun _ => ⟨rfl, _, rfl, HCS.out⟩) HFIT.out (tv_one _) w.heap.size w BEL.out.drew (Nat.le_refl _) ?_; intro w3 hb3 bel3; rw [HJL.out]; have BEL3 := Lib.hid bel3; rw [HST.out] at hb3; clear bel3)
      all_goals
        go_wp2_with (fail)
        go_roundg (n - (k + j))
        case measure => omega
        case rel => exact ⟨k + j, by omega, congrArg (Value.int .i64) HW.out, by omega, hb3.out, BEL3.out⟩
    · have e : k = n := by omega
      clear hm1
      subst e
      have e2 : fillTo k k = List.replicate k true := by simp [fillTo]
      rw [e2] at hb
      have HB := Lib.hid hb
      have BEL := Lib.hid bel
      clear hb bel e2
      go_wp2_with (fail)
      go_ret
      exact ⟨_, rfl, Nat.le_refl _, HB.out, BEL.out⟩
end Go.Proofs.Ytbkjiinnojnkhaa
