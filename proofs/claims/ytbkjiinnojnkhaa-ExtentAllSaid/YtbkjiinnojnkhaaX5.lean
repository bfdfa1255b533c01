import Derived.Test.YtbkjiinnojnkhaaX4
namespace Go.Proofs.Ytbkjiinnojnkhaa
open Go.RowKit
/-- At block `p` stands a room of its own row at block `b`. -/
structure RoomAt (w : World) (p b cap : Nat) (ex : List Value) (at_ : Int) (free : List Bool) : Prop where
  head : Bl w p 45 [.int .i64 at_, .slice (some ⟨b, 0, none⟩) free.length cap]
  row : Bl w b 4 (tv free ++ ex)
  lo : 0 ≤ at_
  hi : at_ ≤ 1000000
  len : free.length ≤ 2048
  le : free.length ≤ cap
  cap : cap ≤ maxLen
theorem RoomAt.r {w : World} {p b cap : Nat} {ex : List Value} {at_ : Int} {free : List Bool} (h : RoomAt w p b cap ex at_ free) : RoomR w p (.slice (some ⟨b, 0, none⟩) free.length cap) at_ free := by
  refine ⟨h.head, ?_, h.lo, h.hi, h.len⟩
  have := h.row.sv (B := w.heap.size) 1 0 free.length cap h.row.lt (by simp [tv]) h.le h.cap
  unfold Sb
  refine cast (congrArg _ ?_) this
  simp [tv]
theorem RoomAt.fr {S : List Nat} {w w' : World} {p b cap : Nat} {ex : List Value} {at_ : Int} {free : List Bool} (h : RoomAt w p b cap ex at_ free) (f : Fr S w w') (hp : p ∉ S) (hb : b ∉ S) : RoomAt w' p b cap ex at_ free :=
  ⟨h.head.fr f hp, h.row.fr f hb, h.lo, h.hi, h.len, h.le, h.cap⟩
theorem RoomAt.ne {w : World} {p b cap : Nat} {ex : List Value} {at_ : Int} {free : List Bool} (h : RoomAt w p b cap ex at_ free) : p ≠ b := h.head.ne h.row (by decide)
def fillAt (free : List Bool) (k j : Nat) (c : Bool) : List Bool := free.take k ++ (List.replicate j c ++ free.drop (k + j))
theorem fillAt_len (free : List Bool) (k j : Nat) (c : Bool) (h : k + j ≤ free.length) : (fillAt free k j c).length = free.length := by
  simp [fillAt]; omega
theorem fillAt_zero (free : List Bool) (k : Nat) (c : Bool) : fillAt free k 0 c = free := by simp [fillAt]
theorem fillAt_step (free : List Bool) (k j : Nat) (c : Bool) (h : k + j < free.length) : (fillAt free k j c).set (k + j) c = fillAt free k (j + 1) c := by
  have h1 : (free.take k).length = k := by simp; omega
  unfold fillAt
  rw [List.set_append_right _ _ (by omega), h1, show k + j - k = j by omega, List.set_append_right _ _ (by simp), List.length_replicate, Nat.sub_self, List.drop_eq_getElem_cons h]
  simp [List.replicate_succ', Nat.add_assoc]
theorem fillAt_get (free : List Bool) (k m : Nat) (c : Bool) (i : Nat) (h : k + m ≤ free.length) : (fillAt free k m c)[i]? = if k ≤ i ∧ i < k + m then some c else free[i]? := by
  have h1 : (free.take k).length = k := by simp; omega
  unfold fillAt
  by_cases a1 : i < k
  · rw [List.getElem?_append_left (by omega), List.getElem?_take, if_pos a1, if_neg (by omega)]
  · rw [List.getElem?_append_right (by omega), h1]
    by_cases a2 : i < k + m
    · rw [List.getElem?_append_left (by simp; omega), if_pos (by omega)]
      rw [List.getElem?_replicate, if_pos (by omega)]
    · rw [List.getElem?_append_right (by simp; omega), if_neg (by omega), List.length_replicate, List.getElem?_drop]
      congr 1
      omega
/-- What the setting of a row leaves. -/
def setTo (at_ : Int) (free : List Bool) (x n : Int) (c : Bool) : List Bool :=
  if isAll at_ free x n (!c) = true then fillAt free (x - at_).toNat n.toNat c else free
set_option maxHeartbeats 1000000 in
theorem set_c (w : World) (p b cap : Nat) (ex : List Value) (at_ : Int) (free : List Bool) (h : RoomAt w p b cap ex at_ free) (x n : Int) (hx : -9223372036854775808 ≤ x ∧ x ≤ 9223372036854775807) (hn : -9223372036854775808 ≤ n ∧ n ≤ 9223372036854775807) (c : Bool) :
    Calls Try.prog 19 #[.pointer (some ⟨p, 0, none⟩), .agg #[.int .i64 x, .int .i64 n], .bool c] w fun e w' => e = .returned (.bool (isAll at_ free x n (!c))) ∧ RoomAt w' p b cap ex at_ (setTo at_ free x n c) ∧ Fr [b] w w' := by
  have hf0 : Fr [b] w (w.alloc (.cells #[.int .i64 x, .int .i64 n] 30)) := (Fr.refl _ _).alloc _
  have h1 := h.fr ((Fr.refl [] w).alloc (.cells #[.int .i64 x, .int .i64 n] 30)) (by simp) (by simp)
  have hs : Bl (w.alloc (.cells #[.int .i64 x, .int .i64 n] 30)) w.heap.size 30 [.int .i64 x, .int .i64 n] := Bl.new _ _ _
  have hlen := h.len
  have hlo := h.lo
  have hhi := h.hi
  have hne := h.ne
  have hbl := h.row.lt
  have hpl := h.head.lt
  clear h
  have HF0 := Lib.hid hf0
  clear hf0
  go_enter Try.func19, Try.ntmps19
  go_upto_region 1 with (fail)
  generalize w.alloc (.cells #[.int .i64 x, .int .i64 n] 30) = w1 at *
  have s0 : w1.cell? ⟨w.heap.size, 0, none⟩ = some (.int .i64 x) := hs.cell 0
  have s1 : w1.cell? ⟨w.heap.size, 1, none⟩ = some (.int .i64 n) := hs.cell 1
  have H1 := Lib.hid h1
  have HS := Lib.hid hs
  clear h1 hs
  go_wp2_with (fail)
  refine (all_c w1 p _ at_ free H1.out.r x n hx hn (!c)).mono ?_
  rintro e w2 ⟨rfl, bel⟩
  have h2 := H1.out.fr (Fr.of_below bel) (by simp) (by simp)
  have hs2 := HS.out.below bel HS.out.lt
  have HF2 := Lib.hid (HF0.out.trans ((Fr.of_below bel).mono (by simp)))
  cases hall : isAll at_ free x n (!c)
  · have HALL := Lib.hid hall
    have e1 : setTo at_ free x n c = free := by unfold setTo; rw [hall]; rfl
    have E := Lib.hid e1
    have H2 := Lib.hid h2
    clear h2 hs2 bel e1 hall s0 s1
    go_wp2_with (fail)
    go_ret
    exact ⟨by rw [HALL.out]; rfl, by rw [E.out]; exact H2.out, HF2.out⟩
  · have HALL := Lib.hid hall
    have hin : 1 ≤ n ∧ at_ ≤ x ∧ x - at_ + n ≤ (free.length : Int) := by
      have := hall
      unfold isAll at this
      simp only [Bool.and_eq_true, decide_eq_true_eq] at this
      exact this.1
    have e1 : setTo at_ free x n c = fillAt free (x - at_).toNat n.toNat c := by unfold setTo; rw [hall]; rfl
    obtain ⟨m, rfl⟩ := Int.eq_ofNat_of_zero_le (by omega : 0 ≤ n)
    obtain ⟨k, hk⟩ := Int.eq_ofNat_of_zero_le (by omega : 0 ≤ x - at_)
    rw [hk, Int.toNat_natCast, Int.toNat_natCast] at e1
    have t0 : w2.cell? ⟨w.heap.size, 0, none⟩ = some (.int .i64 x) := hs2.cell 0
    have t1 : w2.cell? ⟨w.heap.size, 1, none⟩ = some (.int .i64 (m : Int)) := hs2.cell 1
    have E := Lib.hid e1
    have H2 := Lib.hid h2
    have HS2 := Lib.hid hs2
    have hkm : k + m ≤ free.length := by omega
    have hsz : w.heap.size < w2.heap.size := hs2.lt
    clear h2 hs2 bel e1 hall s0 s1
    go_wp2_with (fail)
    go_loopg [7, 16] m (fun q _ i wr => ∃ j : Nat, j + q = m ∧ i = .int .i64 (j : Int) ∧ RoomAt wr p b cap ex at_ (fillAt free k j c) ∧ Fr [b] w2 wr)
    case atStart => exact ⟨0, by omega, rfl, by rw [fillAt_zero]; exact H2.out, Fr.refl _ _⟩
    case round =>
      obtain ⟨j, hj, rfl, hr, fr⟩ := hrel
      by_cases hlt : j < m
      · have hl := fillAt_len free k j c (by omega)
        have c0 : wr.cell? ⟨p, 0, none⟩ = some (.int .i64 at_) := hr.head.cell 0
        have c1 : wr.cell? ⟨p, 1, none⟩ = some (.slice (some ⟨b, 0, none⟩) free.length cap) := by rw [← hl]; exact hr.head.cell 1
        have c2 : wr.cell? ⟨w.heap.size, 0, none⟩ = some (.int .i64 x) := (HS2.out.fr fr (by simp; omega)).cell 0
        have f3 := hr.row.free (k + j)
        have c3 : ∃ y, wr.cell? ⟨b, k + j, none⟩ = some y := ⟨_, by rw [hr.row.cell, List.getElem?_eq_getElem (by rw [List.length_append, tv_len, hl]; omega)]⟩
        obtain ⟨y, c3⟩ := c3
        have hset := hr.row.set (k + j) (.bool c)
        have e4 : (tv (fillAt free k j c) ++ ex).set (k + j) (.bool c) = tv (fillAt free k (j + 1) c) ++ ex := by
          rw [← fillAt_step free k j c (by omega), List.set_append_left _ _ (by rw [tv_len, hl]; omega)]
          unfold tv
          rw [← List.map_set]
        rw [e4] at hset
        have hhead := hr.head.setOther (p := ⟨b, k + j, none⟩) hne (.bool c)
        have hl2 := fillAt_len free k (j + 1) c (by omega)
        have hroom : RoomAt (wr.setCell ⟨b, k + j, none⟩ (.bool c)) p b cap ex at_ (fillAt free k (j + 1) c) :=
          ⟨by rw [hl2, ← hl]; exact hhead, hset, hr.lo, hr.hi, by rw [hl2]; exact hlen, by rw [hl2, ← hl]; exact hr.le, hr.cap⟩
        have HR := Lib.hid hroom
        have FR := Lib.hid (fr.setCell (p := ⟨b, k + j, none⟩) (by simp) (.bool c))
        have i4 : (j : Int) < (m : Int) := by omega
        have w1e := sub_in (a := x) (b := at_) (by omega)
        rw [hk] at w1e
        have w2e := add_in (a := (k : Int)) (b := (j : Int)) (by omega)
        have hidx : ((k : Int) + (j : Int)).toNat = k + j := by omega
        have i5 : (k : Int) + (j : Int) < (free.length : Int) := by omega
        have i6 : 0 ≤ (k : Int) + (j : Int) := by omega
        clear hr fr hset hhead hroom e4 hl hl2
        go_wp2_with (fail)
        go_still_tail 15, (by kernel_rfl)
        change wpList _ _ _ _ _ wr.drew
        go_wp2_with (fail)
        go_roundg (m - (j + 1))
        case measure => omega
        case rel => exact ⟨j + 1, by omega, by go_num, ⟨HR.out.head, HR.out.row, HR.out.lo, HR.out.hi, HR.out.len, HR.out.le, HR.out.cap⟩, FR.out.trans ((Fr.refl _ _).drew)⟩
      · have e : j = m := by omega
        subst e
        have HR := Lib.hid hr
        have FR := Lib.hid fr
        clear hr fr
        go_wp2_with (fail)
        go_ret
        exact ⟨by rw [HALL.out]; rfl, by rw [E.out]; exact HR.out, HF2.out.trans FR.out⟩
end Go.Proofs.Ytbkjiinnojnkhaa
