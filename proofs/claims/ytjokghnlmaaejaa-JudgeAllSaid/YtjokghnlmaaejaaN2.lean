import Derived.Test.YtjokghnlmaaejaaN1
import Derived.Lib.RuneCountTail
namespace Go.Proofs.Ytjokghnlmaaejaa
open Go.RowKit
/-! ### ref Valid, MayKey, MayVal, May -/
set_option maxHeartbeats 1000000 in
theorem refValid_c (w : World) (s : ByteArray) (hs : s.size ≤ 1000) : Calls Try.prog 39 #[.string s] w fun e w' => e = .returned (.bool (rv s)) ∧ w = w' := by
  go_enter Try.func39, Try.ntmps39
  go_wp2_with (fail)
  go_loopg [3] s.size (fun q i wr => ∃ k : Nat, k + q = s.size ∧ i = .int .i64 (k : Int) ∧ rv s = rvAt s k ∧ w = wr)
  case atStart => exact ⟨0, by omega, rfl, rfl, rfl⟩
  case round =>
    obtain ⟨k, hq, rfl, hrv, rfl⟩ := hrel
    by_cases hlt : k < s.size
    · have i4 : (k : Int) < (s.size : Int) := by omega
      have hd := Lib.tail_decode s k 0
      have hsz : (s.extract k s.size).size = s.size - k := by simp
      have HD := Lib.hid (decode_c w (s.extract k s.size) (by omega) (by omega))
      have hst := rvAt_step s k hlt
      have h1 := Lib.decode_width_pos s k hlt
      have h2 := width_le s k hlt
      rw [Nat.add_zero] at hd
      have HRV := Lib.hid hrv
      have HST := Lib.hid hst
      have HDD := Lib.hid hd
      have HH := Lib.hid (And.intro h1 h2)
      clear hrv hst hd h1 h2 hsz
      go_wp2_with (fail)
      refine HD.out.mono ?_
      rintro e w2 ⟨⟨r, n, ok, rfl, hdec⟩, rfl⟩
      have HDE := Lib.hid hdec
      clear hdec
      cases ok
      · go_wp2_with (fail)
        go_ret
        refine ⟨?_, rfl⟩
        have := HDE.out.2 rfl
        rw [HDD.out] at this
        rw [HRV.out, HST.out, if_pos this]
        rfl
      · obtain ⟨hn, hne⟩ := HDE.out.1 rfl
        rw [HDD.out] at hn hne
        have hrv2 : rv s = rvAt s (k + n) := by rw [HRV.out, HST.out, if_neg hne, hn]
        have hb : 1 ≤ n ∧ k + n ≤ s.size := by rw [hn]; exact HH.out
        have HRV2 := Lib.hid hrv2
        clear hn hne hrv2
        go_wp2_with (fail)
        go_roundg (s.size - (k + n))
        case measure => omega
        case rel => exact ⟨k + n, by omega, by go_num, HRV2.out, rfl⟩
    · have he := rvAt_end s k hlt
      have HRV := Lib.hid (hrv.trans he)
      clear hrv he
      go_wp2_with (fail)
      go_ret
      exact ⟨by rw [HRV.out]; rfl, rfl⟩
theorem refKey_c (w : World) (k : ByteArray) : Calls Try.prog 27 #[.string k] w fun e w' => e = .returned (.bool (mayKey k)) ∧ w = w' := by
  have hsz : k.toList.isEmpty = decide (k.size < 1) := by
    rw [Lib.toList_data]
    obtain ⟨⟨l⟩⟩ := k
    cases l <;> simp [ByteArray.size]
  have HSZ := Lib.hid hsz
  clear hsz
  go_enter Try.func27, Try.ntmps27
  by_cases h : (k.size : Int) ≥ 1
  · by_cases h2 : (k.size : Int) ≤ 16
    · go_wp2_with (fail)
      go_ret
      exact ⟨by unfold mayKey; rw [HSZ.out, decide_eq_false (by omega : ¬ k.size < 1), decide_eq_true h2]; rfl, rfl⟩
    · go_wp2_with (fail)
      go_ret
      exact ⟨by unfold mayKey; rw [HSZ.out, decide_eq_false (by omega : ¬ k.size < 1), decide_eq_false (by omega : ¬ (k.size : Int) ≤ 16)]; rfl, rfl⟩
  · go_wp2_with (fail)
    go_ret
    exact ⟨by unfold mayKey; rw [HSZ.out, decide_eq_true (by omega : k.size < 1)]; rfl, rfl⟩
set_option maxHeartbeats 1000000 in
theorem refVal_c (w : World) (v : Raw) : Calls Try.prog 28 #[rawV v] w fun e w' => e = .returned (.bool (ofOk v)) ∧ Below w.heap.size w w' := by
  have hunf : ofOk v = ((decide (v.kind = 1) && v.s.toList.isEmpty) || (decide (v.kind = 2) && decide (v.n = 0) && decide (v.s.size ≤ 24) && rv v.s)) := rfl
  have HU := Lib.hid hunf
  clear hunf
  generalize ofOk v = ok at *
  obtain ⟨kind, n, s⟩ := v
  simp only [rawV] at *
  have hr : Bl (w.alloc (.cells #[.int .i64 kind, .int .i64 n, .string s] 24)) w.heap.size 24 [.int .i64 kind, .int .i64 n, .string s] := Bl.new w 24 _
  have hb : Below w.heap.size w (w.alloc (.cells #[.int .i64 kind, .int .i64 n, .string s] 24)) := (Below.refl _ _).alloc (Nat.le_refl _) _
  go_enter Try.func28, Try.ntmps28
  go_upto_region 1 with (fail)
  generalize w.alloc (.cells #[.int .i64 kind, .int .i64 n, .string s] 24) = w2 at *
  have c0 : w2.cell? ⟨w.heap.size, 0, none⟩ = some (.int .i64 kind) := hr.cell 0
  have c1 : w2.cell? ⟨w.heap.size, 1, none⟩ = some (.int .i64 n) := hr.cell 1
  have c2 : w2.cell? ⟨w.heap.size, 2, none⟩ = some (.string s) := hr.cell 2
  have HB := Lib.hid hb
  clear hr hb
  by_cases k1 : kind = 1
  · cases k2 : s.toList.isEmpty
    · have HE := Lib.hid (show ok = false by rw [HU.out]; simp [k1, k2])
      clear HU
      go_wp2_with (fail)
      go_ret
      exact ⟨by rw [HE.out]; rfl, HB.out⟩
    · have HE := Lib.hid (show ok = true by rw [HU.out]; simp [k1, k2])
      clear HU
      go_wp2_with (fail)
      go_ret
      exact ⟨by rw [HE.out]; rfl, HB.out⟩
  · by_cases k2 : kind = 2
    · by_cases k3 : n = 0
      · by_cases k4 : s.size ≤ 24
        · have k5 : (s.size : Int) ≤ 24 := by omega
          have HC := Lib.hid (refValid_c w2 s (by omega))
          have HE := Lib.hid (show ok = rv s by rw [HU.out]; simp [k2, k3, k4])
          clear HU
          go_wp2_with (go_at_call 39; refine HC.out.mono ?_; rintro e w3 ⟨rfl, rfl⟩)
          all_goals
            go_ret
            exact ⟨by rw [HE.out]; rfl, HB.out⟩
        · have k5 : ¬ (s.size : Int) ≤ 24 := by omega
          have HE := Lib.hid (show ok = false by rw [HU.out]; simp [k1, k4])
          clear HU
          go_wp2_with (fail)
          go_ret
          exact ⟨by rw [HE.out]; rfl, HB.out⟩
      · have HE := Lib.hid (show ok = false by rw [HU.out]; simp [k1, k3])
        clear HU
        go_wp2_with (fail)
        go_ret
        exact ⟨by rw [HE.out]; rfl, HB.out⟩
    · have HE := Lib.hid (show ok = false by rw [HU.out]; simp [k1, k2])
      clear HU
      go_wp2_with (fail)
      go_ret
      exact ⟨by rw [HE.out]; rfl, HB.out⟩
set_option maxHeartbeats 1000000 in
theorem refMay_c (w : World) (r : RR) : Calls Try.prog 19 #[rrV r] w fun e w' => e = .returned (.bool (mayR r)) ∧ Below w.heap.size w w' := by
  have hunf : mayR r = (mayKey r.k && (if r.gone then decide (r.v = raw0) else ofOk r.v)) := rfl
  have HU := Lib.hid hunf
  clear hunf
  generalize mayR r = ok at *
  obtain ⟨k, gone, ⟨kind, n, s⟩⟩ := r
  simp only [rrV] at *
  have hr : Bl (w.alloc (.cells #[.string k, .bool gone, .int .i64 kind, .int .i64 n, .string s] 26)) w.heap.size 26 [.string k, .bool gone, .int .i64 kind, .int .i64 n, .string s] := Bl.new w 26 _
  have hb : Below w.heap.size w (w.alloc (.cells #[.string k, .bool gone, .int .i64 kind, .int .i64 n, .string s] 26)) := (Below.refl _ _).alloc (Nat.le_refl _) _
  go_enter Try.func19, Try.ntmps19
  go_upto_region 1 with (fail)
  generalize w.alloc (.cells #[.string k, .bool gone, .int .i64 kind, .int .i64 n, .string s] 26) = w2 at *
  have c0 : w2.cell? ⟨w.heap.size, 0, none⟩ = some (.string k) := hr.cell 0
  have c1 : w2.cell? ⟨w.heap.size, 1, none⟩ = some (.bool gone) := hr.cell 1
  have c2 : w2.cell? ⟨w.heap.size, 2, none⟩ = some (.int .i64 kind) := hr.cell 2
  have c3 : w2.cell? ⟨w.heap.size, 3, none⟩ = some (.int .i64 n) := hr.cell 3
  have c4 : w2.cell? ⟨w.heap.size, 4, none⟩ = some (.string s) := hr.cell 4
  have HB := Lib.hid hb
  have hz := hb.size
  have HK := Lib.hid (refKey_c w2 k)
  have hval := refVal_c w2 ⟨kind, n, s⟩
  simp only [rawV] at hval
  have HV := Lib.hid hval
  clear hr hb hval
  cases hk : mayKey k
  · rw [hk] at HK
    have HE := Lib.hid (show ok = false by rw [HU.out]; simp [hk])
    clear HU
    go_wp2_with (go_at_call 27; refine HK.out.mono ?_; rintro e w3 ⟨rfl, rfl⟩)
    go_ret
    exact ⟨by rw [HE.out]; rfl, HB.out⟩
  · rw [hk] at HK
    cases gone
    · have HE := Lib.hid (show ok = ofOk ⟨kind, n, s⟩ by rw [HU.out]; simp [hk])
      clear HU
      go_wp2_with (go_at_call 27; refine HK.out.mono ?_; rintro e w3 ⟨rfl, rfl⟩)
      refine HV.out.mono ?_
      rintro e w3 ⟨rfl, bel⟩
      have B3 := Lib.hid (HB.out.trans (bel.mono hz))
      clear bel
      go_wp2_with (fail)
      go_ret
      exact ⟨by rw [HE.out]; rfl, B3.out⟩
    · have HE := Lib.hid (show ok = (decide (kind = 0) && (decide (n = 0) && s.toList.isEmpty)) by rw [HU.out, ← raw0_eq]; simp [hk])
      clear HU
      by_cases k1 : kind = 0
      · by_cases k2 : n = 0
        · cases k3 : s.toList.isEmpty
          · have HE2 := Lib.hid (show ok = false by rw [HE.out]; simp [k3])
            clear HE
            go_wp2_with (go_at_call 27; refine HK.out.mono ?_; rintro e w3 ⟨rfl, rfl⟩)
            go_ret
            exact ⟨by rw [HE2.out]; rfl, HB.out⟩
          · have HE2 := Lib.hid (show ok = true by rw [HE.out]; simp [k1, k2, k3])
            clear HE
            go_wp2_with (go_at_call 27; refine HK.out.mono ?_; rintro e w3 ⟨rfl, rfl⟩)
            go_ret
            exact ⟨by rw [HE2.out]; rfl, HB.out⟩
        · have HE2 := Lib.hid (show ok = false by rw [HE.out]; simp [k2])
          clear HE
          go_wp2_with (go_at_call 27; refine HK.out.mono ?_; rintro e w3 ⟨rfl, rfl⟩)
          go_ret
          exact ⟨by rw [HE2.out]; rfl, HB.out⟩
      · have HE2 := Lib.hid (show ok = false by rw [HE.out]; simp [k1])
        clear HE
        go_wp2_with (go_at_call 27; refine HK.out.mono ?_; rintro e w3 ⟨rfl, rfl⟩)
        go_ret
        exact ⟨by rw [HE2.out]; rfl, HB.out⟩
end Go.Proofs.Ytjokghnlmaaejaa
