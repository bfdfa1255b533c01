import Derived.Test.YtapanemkpcnkaaaC1
namespace Go.Proofs.Ytapanemkpcnkaaa
open Go.RowKit
/-- The slice value `v` reads as the ints `l`. -/
def Si (w : World) (B : Nat) (v : Value) (l : List Int) : Prop :=
  ∃ a cap, v = .slice a l.length cap ∧ l.length ≤ cap ∧ cap ≤ maxLen ∧ (∀ x ∈ l, -9223372036854775808 ≤ x ∧ x ≤ 9223372036854775807) ∧ (l = [] ∨ ∃ b off, a = some ⟨b, off, none⟩ ∧ b < B ∧ ∀ i (h : i < l.length), w.cell? ⟨b, off + i, none⟩ = some (.int .i64 l[i]))
theorem Si.keep {w w' : World} {B B' : Nat} {v : Value} {l : List Int} (h : Si w B v l) (hB : B ≤ B') (hk : ∀ b o, b < B → w'.cell? ⟨b, o, none⟩ = w.cell? ⟨b, o, none⟩) : Si w' B' v l := by
  obtain ⟨a, cap, e, h0, h1, hn, h2⟩ := h
  refine ⟨a, cap, e, h0, h1, hn, h2.imp id ?_⟩
  rintro ⟨b, off, e1, hb, hc⟩
  exact ⟨b, off, e1, by omega, fun i hi => (hk _ _ hb).trans (hc i hi)⟩
theorem Si.below {w w' : World} {B B' B0 : Nat} {v : Value} {l : List Int} (h : Si w B v l) (hB : B ≤ B') (hb : Below B0 w w') (h0 : B ≤ B0) : Si w' B' v l :=
  h.keep hB fun b o hlt => hb.cell (p := ⟨b, o, none⟩) (show b < B0 by omega)
theorem Si.of_row {w : World} {a : Option Addr} {len cap : Nat} {zs : List Int} (h : IsRow .i64 w a len cap zs) : ∃ l, Si w w.heap.size (.slice a len cap) l := by
  rcases h with ⟨rfl, rfl, rfl, rfl⟩ | ⟨x, rfl, h1, h2, rfl, hc, hw⟩
  · exact ⟨[], none, 0, rfl, by simp, by simp [maxLen], by simp, .inl rfl⟩
  · have e : (zs.take len).length = len := by simp; omega
    refine ⟨zs.take len, some x, zs.length, by rw [e], by omega, h2, ?_, ?_⟩
    · intro x hx
      have := bounds_i64 (hw x (List.mem_of_mem_take hx))
      exact this
    rcases Nat.eq_zero_or_pos len with h0 | h0
    · subst h0; exact .inl (by simp)
    · have c0 := hc 0 (by omega)
      have hb := lt_of_cell c0
      obtain ⟨b, off, spot⟩ := x
      have hsp : spot = none := by simpa [Addr.add] using World.cell?_spot c0
      subst hsp
      refine .inr ⟨b, off, rfl, by simpa [Addr.add] using hb, fun i hi => ?_⟩
      have ci := hc i (by omega)
      have e2 : (Addr.add ⟨b, off, none⟩ i) = ⟨b, off + i, none⟩ := by
        unfold Addr.add
        split
        · next h0 => subst h0; rfl
        · rfl
      rw [e2] at ci
      rw [ci]
      have hi2 : i < zs.length := by omega
      simp [hi2]

theorem elem24 : Try.prog.elem 24 = 5 := by simp [Program.elem, Try.underlying24]
theorem und24 : Try.prog.underlying 24 = some (.slice (Try.prog.elem 24)) := by rw [elem24]; exact Try.underlying24
theorem Sl.part {w : World} {B : Nat} {a : Option Addr} {cap : Nat} {l : List UInt8} (h : Sl w B (.slice a l.length cap) l) (k n : Nat) (hk : k + n ≤ l.length) :
    Sl w B (.slice (if cap = k then a else a.map (·.add (k * 1))) n (cap - k)) ((l.drop k).take n) := by
  obtain ⟨hl, a', cap', e, h1, h2, hN, h3⟩ := h
  injection e with e1 e2 e3
  subst e1 e3
  have e : ((l.drop k).take n).length = n := by simp; omega
  refine ⟨by omega, _, _, by rw [e], by omega, by unfold maxLen at *; omega, ?_, ?_⟩
  · intro h
    split at h
    · omega
    · have : a = none := by cases a <;> simp_all
      have := hN this
      omega
  · rcases Nat.eq_zero_or_pos n with h0 | h0
    · subst h0; exact .inl (by simp)
    · rcases h3 with rfl | ⟨b, off, rfl, hb, hc⟩
      · simp at hk; omega
      · rw [if_neg (by omega)]
        refine .inr ⟨b, off + k, by simp [Addr.add], hb, fun i hi => ?_⟩
        have := hc (k + i) (by omega)
        rw [Nat.add_assoc, this]
        simp
theorem Sl.cut_mid {w : World} {B : Nat} {a : Option Addr} {cap : Nat} {l : List UInt8} (h : Sl w B (.slice a l.length cap) l) (lo hi' : Int) (h0 : 0 ≤ lo) (h1 : lo ≤ hi') (h2 : hi' ≤ l.length) :
    ∃ v, (∀ W, (Instr.slice 24 (.slice a l.length cap) (some (.int .i64 lo)) (some (.int .i64 hi')) none).run Try.prog W = .ok v W) ∧ Sl w B v ((l.drop lo.toNat).take (hi'.toNat - lo.toNat)) := by
  obtain ⟨i0, hi, hz0, hz1, hz2⟩ := info_parts info5
  refine ⟨_, fun W => ?_, h.part lo.toNat (hi'.toNat - lo.toNat) (by omega)⟩
  obtain ⟨hl, a', cap', e, h3, _⟩ := h
  injection e with e1 e2 e3
  subst e1 e3
  rw [run_slice_lh W 24 a l.length cap und24 .i64 .i64 lo hi' (by omega) (by omega) (by omega), elem24]
  simp [sizeOf, typeInfo, hi, hz1, sliced, Result.andThen]
theorem Sl.cut_to {w : World} {B : Nat} {a : Option Addr} {cap : Nat} {l : List UInt8} (h : Sl w B (.slice a l.length cap) l) (n : Int) (h0 : 0 ≤ n) (hk : n ≤ l.length) :
    ∃ v, (∀ W, (Instr.slice 24 (.slice a l.length cap) none (some (.int .i64 n)) none).run Try.prog W = .ok v W) ∧ Sl w B v (l.take n.toNat) := by
  obtain ⟨i0, hi, hz0, hz1, hz2⟩ := info_parts info5
  refine ⟨_, fun W => ?_, h.part 0 n.toNat (by omega)⟩
  obtain ⟨hl, a', cap', e, h1, _⟩ := h
  injection e with e1 e2 e3
  subst e1 e3
  rw [run_slice_h W 24 a l.length cap und24 .i64 n (by omega) (by omega), elem24]
  simp [sizeOf, typeInfo, hi, hz1, sliced, Result.andThen]
theorem Sl.cut_from {w : World} {B : Nat} {a : Option Addr} {cap : Nat} {l : List UInt8} (h : Sl w B (.slice a l.length cap) l) (k : Nat) (hk : k ≤ l.length) :
    ∃ v, (∀ W, (Instr.slice 24 (.slice a l.length cap) (some (.int .i64 (k : Int))) none none).run Try.prog W = .ok v W) ∧ Sl w B v (l.drop k) := by
  obtain ⟨i0, hi, hz0, hz1, hz2⟩ := info_parts info5
  refine ⟨_, fun W => ?_, by have := h.part k (l.length - k) (by omega); rw [List.take_of_length_le (by simp)] at this; exact this⟩
  obtain ⟨hl, a', cap', e, h1, _⟩ := h
  injection e with e1 e2 e3
  subst e1 e3
  rw [run_slice_l W 24 a l.length cap und24 .i64 k (by omega) (by omega), elem24]
  simp [sizeOf, typeInfo, hi, hz1, sliced, Result.andThen]
theorem mod40 (x : Int) : ∃ y : Int, x.tmod 40 = y ∧ -40 < y ∧ y < 40 := by
  have h1 := Int.tmod_lt_of_pos x (show (0 : Int) < 40 by omega)
  have h2 : -40 < x.tmod 40 := by
    have := Int.lt_tmod_of_pos x (show (0 : Int) < 40 by omega)
    omega
  exact ⟨_, rfl, h2, h1⟩

set_option maxHeartbeats 400000 in
theorem crcMany_walk (w : World) {vb vs : Value} {lb : List UInt8} {ls : List Int} (hb : Sl w w.heap.size vb lb) (hs : Si w w.heap.size vs ls) :
    Calls Try.prog 7 #[vb, vs] w fun e w' => e = .returned (.bool true) ∧ Below w.heap.size w w' := by
  go_enter Try.func7, Try.ntmps7
  go_wp2_with (fail)
  refine (begun_c w).mono ?_
  rintro e w1 ⟨rfl, hb1⟩
  have hbb1 := hb.below (B' := w.heap.size) (by omega) hb1 (by omega)
  have hss1 := hs.below (B' := w.heap.size) (by omega) hb1 (by omega)
  clear hb hs
  go_wp2_with (fail)
  refine (short_c vb lb 300 w1 _ hbb1 (by decide)).mono ?_
  rintro e w' ⟨⟨v2, rfl, h2⟩, rfl⟩
  have HL := Lib.hid (List.length_take_le 300 lb)
  generalize lb.take 300 = l at *
  clear hbb1
  have HB := Lib.hid hb1
  clear hb1
  have h2' := h2
  obtain ⟨_, a, cap, rfl, hcap, hcm, hnn, h3⟩ := h2
  have H2 := Lib.hid h2'
  clear h2'
  obtain ⟨sa, scap, rfl, hscap, hscm, hsb, s3⟩ := hss1
  have hl : l.length ≤ 300 := HL.out
  unfold maxLen at hcm hscm
  have H3 := Lib.hid h3
  have S3 := Lib.hid s3
  have NN := Lib.hid hnn
  have SB := Lib.hid hsb
  clear h3 s3 hnn hsb
  go_wp2_with (fail)
  go_loop [6, 7, 8, 9] (fun s at_ i _ => ∃ k j : Nat, k ≤ l.length ∧ i = .int .i64 j ∧ j ≤ ls.length ∧ at_ = .int .i64 k ∧ s = u32 (crc 0#32 (l.take k))) (fun _ _ i _ => ls.length - (intOf i).toNat)
  case atStart => exact ⟨0, 0, by omega, rfl, by omega, rfl, by rw [List.take_zero, crc_nil]; rfl⟩
  case round =>
    obtain ⟨k, j, hk, rfl, hj, rfl, rfl⟩ := hrel
    by_cases hlt : j < ls.length ∧ j < 40
    · obtain ⟨hlt, h40⟩ := hlt
      rcases S3.out with rfl | ⟨sb, soff, rfl, _, hsc⟩
      · simp at hlt
      have hcell := hsc j hlt
      clear hsc
      generalize ls[j] = x at *
      obtain ⟨y, hy, hy1, hy2⟩ := mod40 x
      obtain ⟨n, hn, hnm⟩ : ∃ n : Int, (0 ≤ n ∧ k + n ≤ l.length) ∧ ((l.length : Int) - k ≤ y % 40 ∧ n = l.length - k ∨ y % 40 < l.length - k ∧ n = y % 40) := by
        by_cases h : y % 40 < l.length - k
        · exact ⟨_, by omega, .inr ⟨h, rfl⟩⟩
        · exact ⟨_, by omega, .inl ⟨by omega, rfl⟩⟩
      obtain ⟨hn, hn'⟩ := hn
      obtain ⟨v1, hv1, hs1⟩ := Sl.cut_mid H2.out k (k + n) (by omega) (by omega) (by omega)
      obtain ⟨v2, hv2, hs2⟩ := Sl.cut_to H2.out (k + n) (by omega) (by omega)
      have hcrc : Hid (crc (crc 0#32 (l.take k)) ((l.drop (k : Int).toNat).take ((k + n).toNat - (k : Int).toNat)) = crc 0#32 (l.take (k + n).toNat)) := by
        show _ = _
        have e1 : ((k : Int) + n).toNat = k + n.toNat := by omega
        rw [e1, Int.toNat_natCast, Nat.add_sub_cancel_left, ← crc_append, List.take_add]
      have hin : Hid (0 ≤ n ∧ k + n ≤ l.length) := ⟨hn, hn'⟩
      clear hn hn'
      rcases hnm with ⟨h, rfl⟩ | ⟨h, rfl⟩
      all_goals
        go_wp2_with (fail)
        refine (more_c _ _ _ _ _ hs1).mono ?_
        rintro e w' ⟨rfl, rfl⟩
        rw [hcrc.out]
        clear hv1 hs1
        go_wp2_with (fail)
        refine (sum_c _ _ _ _ hs2).mono ?_
        rintro e w' ⟨rfl, rfl⟩
        go_wp2_with (fail)
        go_roundw
        case rel =>
          obtain ⟨h1, h2⟩ := hin.out
          refine ⟨_, j + 1, ?_, by go_num, by omega, congrArg _ (Int.toNat_of_nonneg (show (0 : Int) ≤ _ by omega)).symm, rfl⟩
          omega
        case measure => simp [intOf]; omega
    · obtain ⟨v1, hv1, hs1⟩ := Sl.cut_from H2.out k (by omega)
      have hcrc : Hid (crc (crc 0#32 (l.take k)) (l.drop k) = crc 0#32 l) := by
        show _ = _
        rw [← crc_append, List.take_append_drop]
      go_wp2_with (fail)
      all_goals
        refine (more_c _ _ _ _ _ hs1).mono ?_
        rintro e w' ⟨rfl, rfl⟩
        rw [hcrc.out]
        go_wp2_with (fail)
        refine (sum_c _ _ _ _ H2.out).mono ?_
        rintro e w' ⟨rfl, rfl⟩
        go_wp2_with (fail)
        go_ret
        exact ⟨rfl, HB.out⟩
end Go.Proofs.Ytapanemkpcnkaaa
