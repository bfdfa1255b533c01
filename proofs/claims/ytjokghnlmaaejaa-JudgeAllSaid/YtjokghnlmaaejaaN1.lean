import Derived.Test.YtjokghnlmaaejaaM2
import Derived.Lib.DecodeN
namespace Go.Proofs.Ytjokghnlmaaejaa
open Go.RowKit
/-! ### Decode -/
theorem gb (s : ByteArray) (i : Nat) (h : i < s.size) : (s.get! i).toNat = s[i].toNat := by
  obtain ⟨⟨l⟩⟩ := s
  have : (ByteArray.mk ⟨l⟩).get! i = (ByteArray.mk ⟨l⟩)[i] := getElem!_pos (⟨l⟩ : Array UInt8) i h
  rw [this]
/-- What Decode tells. -/
def Dec (s : ByteArray) (n : Nat) (ok : Bool) : Prop := (ok = true → n = (Utf8.decode s 0).2 ∧ Utf8.decode s 0 ≠ (65533, 1)) ∧ (ok = false → Utf8.decode s 0 = (65533, 1))
def DecPost (s : ByteArray) (e : Ending) : Prop := ∃ (r : Int) (n : Nat) (ok : Bool), e = .returned (.tuple #[.int .i32 r, .int .i64 (n : Int), .bool ok]) ∧ Dec s n ok
theorem dec_no {s : ByteArray} {b0 b1 b2 b3 n : Nat} (h0 : (s.get! 0).toNat = b0) (h1 : (s.get! 1).toNat = b1) (h2 : (s.get! 2).toNat = b2) (h3 : (s.get! 3).toNat = b3) (h : Lib.decodeN s.size b0 b1 b2 b3 = (65533, 1)) : Dec s n false := by
  refine ⟨fun e => (by cases e), fun _ => ?_⟩
  rw [Lib.decode_at, Nat.sub_zero, h0, h1, h2, h3]
  exact h
theorem dec_yes {s : ByteArray} {b0 b1 b2 b3 n r : Nat} (h0 : (s.get! 0).toNat = b0) (h1 : (s.get! 1).toNat = b1) (h2 : (s.get! 2).toNat = b2) (h3 : (s.get! 3).toNat = b3) (h : Lib.decodeN s.size b0 b1 b2 b3 = (r, n)) (hne : r ≠ 65533 ∨ n ≠ 1) : Dec s n true := by
  refine ⟨fun _ => ?_, fun e => (by cases e)⟩
  rw [Lib.decode_at, Nat.sub_zero, h0, h1, h2, h3, h]
  refine ⟨rfl, fun e => ?_⟩
  injection e with e1 e2
  omega
set_option maxHeartbeats 4000000 in
set_option maxRecDepth 100000 in
theorem decode_c (w : World) (s : ByteArray) (h0 : 0 < s.size) (hs : s.size ≤ 1000) :
    Calls Try.prog 44 #[.string s] w fun e w' => DecPost s e ∧ w = w' := by
  have g0 := gb s 0 h0
  obtain ⟨b0, hb0⟩ : ∃ b, b = s[0].toNat := ⟨_, rfl⟩
  have hb256 : b0 < 256 := by rw [hb0]; exact UInt8.toNat_lt _
  rw [← hb0] at g0
  have G0 := Lib.hid g0
  clear g0
  go_enter Try.func44, Try.ntmps44
  go_upto_region 2 with (fail)
  rw [← hb0]
  clear hb0
  by_cases c1 : b0 < 128
  · have d1 : (b0 : Int) < 128 := by omega
    go_wp2_with (fail)
    (try simp only [Exit.inBlock, Exit.then])
    refine bodyPost_ret (results_tmp3 rfl _ _ _) rfl ?_
    refine ⟨⟨(b0 : Int), 1, true, rfl, dec_yes (r := b0) G0.out rfl rfl rfl ?_ (.inl (by omega))⟩, rfl⟩
    unfold Lib.decodeN
    rw [if_pos c1]
  by_cases c2 : b0 < 192
  · have d1 : ¬ (b0 : Int) < 128 := by omega
    have d2 : ¬ (b0 : Int) ≥ 192 := by omega
    have d3 : ¬ (b0 : Int) ≥ 224 := by omega
    have d4 : ¬ (b0 : Int) ≥ 240 := by omega
    go_wp2_with (fail)
    (try simp only [Exit.inBlock, Exit.then])
    refine bodyPost_ret (results_tmp3 rfl _ _ _) rfl ?_
    refine ⟨⟨65533, 1, false, rfl, dec_no G0.out rfl rfl rfl ?_⟩, rfl⟩
    unfold Lib.decodeN
    repeat' split
    all_goals first | rfl | (exfalso; omega)
  by_cases c3 : b0 < 224
  · have d0 : ¬ (b0 : Int) < 128 := by omega
    have e0 : (b0 : Int) ≥ 192 := by omega
    have e1 : (b0 : Int) < 224 := by omega
    obtain ⟨r0, hr0⟩ : ∃ r0, b0 = 192 + r0 := ⟨b0 - 192, by omega⟩
    have hr : (b0 : Int) - 192 = (r0 : Int) := by omega
    have HR0 := Lib.hid hr0
    clear hr0 c1 c2
    by_cases hsz : s.size < 2
    · have hszi : (s.size : Int) < 2 := by omega
      go_wp2_with (fail)
      (try simp only [Exit.inBlock, Exit.then])
      refine bodyPost_ret (results_tmp3 rfl _ _ _) rfl ?_
      refine ⟨⟨65533, 1, false, rfl, dec_no G0.out rfl rfl rfl ?_⟩, rfl⟩
      have hr0 := HR0.out
      unfold Lib.decodeN
      repeat' split
      all_goals first | rfl | (exfalso; omega)
    · have hszi : ¬ (s.size : Int) < 2 := by omega
      have g1 := gb s 1 (by omega)
      obtain ⟨b1, hb1⟩ : ∃ b, s[1].toNat = b := ⟨_, rfl⟩
      have hb16 : b1 < 256 := by rw [← hb1]; exact UInt8.toNat_lt _
      rw [hb1] at g1
      have G1 := Lib.hid g1
      clear g1
      go_wp2_with (fail)
      go_loopg [8, 9] 1 (fun q r i wr => ((q = 1 ∧ i = .int .i64 1 ∧ ∃ x : Nat, r = .int .i32 (x : Int) ∧ x = r0) ∨ (q = 0 ∧ i = .int .i64 2 ∧ ∃ x : Nat, r = .int .i32 (x : Int) ∧ x = (r0 * 64 + (b1 - 128)) ∧ (128 ≤ b1 ∧ b1 ≤ 191))) ∧ w = wr)
      case atStart => exact ⟨.inl ⟨rfl, rfl, r0, rfl, rfl⟩, rfl⟩
      case round =>
        obtain ⟨hd, rfl⟩ := hrel
        rcases hd with ⟨rfl, rfl, x, rfl, hx⟩ | ⟨rfl, rfl, x, rfl, hx, k1⟩
        · have hxb : x ≤ 31 := by have := HR0.out; omega
          have HX := Lib.hid hx
          clear hx
          by_cases m1 : b1 < 128
          · have m1i : (b1 : Int) < 128 := by omega
            go_wp2_with (fail)
            (try simp only [Exit.inBlock, Exit.then])
            refine bodyPost_ret (results_tmp3 rfl _ _ _) rfl ?_
            refine ⟨⟨65533, 1, false, rfl, dec_no G0.out G1.out rfl rfl ?_⟩, rfl⟩
            have hr0 := HR0.out
            have hx := HX.out
            unfold Lib.decodeN
            repeat' split
            all_goals first | rfl | (exfalso; omega)
          · have m1i : ¬ (b1 : Int) < 128 := by omega
            by_cases m2 : b1 > 191
            · have m2i : (b1 : Int) > 191 := by omega
              go_wp2_with (fail)
              (try simp only [Exit.inBlock, Exit.then])
              refine bodyPost_ret (results_tmp3 rfl _ _ _) rfl ?_
              refine ⟨⟨65533, 1, false, rfl, dec_no G0.out G1.out rfl rfl ?_⟩, rfl⟩
              have hr0 := HR0.out
              have hx := HX.out
              unfold Lib.decodeN
              repeat' split
              all_goals first | rfl | (exfalso; omega)
            · have m2i : ¬ (b1 : Int) > 191 := by omega
              obtain ⟨y, hy⟩ : ∃ y, y = x * 64 + (b1 - 128) := ⟨_, rfl⟩
              have hyi : (x : Int) * 64 + (b1 : Int) - 128 = (y : Int) := by omega
              go_wp2_with (fail)
              go_roundg 0
              case measure => omega
              case rel => exact ⟨.inr (⟨rfl, rfl, y, congrArg (Value.int .i32) (by omega), by rw [hy, HX.out], ⟨by omega, by omega⟩⟩), rfl⟩
        · have hxb : x ≤ 2047 := by have := HR0.out; omega
          have HX := Lib.hid hx
          clear hx
          by_cases z1 : x < 128
          · have z1i : (x : Int) < 128 := by omega
            go_wp2_with (fail)
            (try simp only [Exit.inBlock, Exit.then])
            refine bodyPost_ret (results_tmp3 rfl _ _ _) rfl ?_
            refine ⟨⟨65533, 1, false, rfl, dec_no G0.out G1.out rfl rfl ?_⟩, rfl⟩
            have hr0 := HR0.out
            have hx := HX.out
            unfold Lib.decodeN
            repeat' split
            all_goals first | rfl | (exfalso; omega)
          · have z1i : ¬ (x : Int) < 128 := by omega
            by_cases z2 : x > 1114111
            · have z2i : (x : Int) > 1114111 := by omega
              go_wp2_with (fail)
              (try simp only [Exit.inBlock, Exit.then])
              refine bodyPost_ret (results_tmp3 rfl _ _ _) rfl ?_
              refine ⟨⟨65533, 1, false, rfl, dec_no G0.out G1.out rfl rfl ?_⟩, rfl⟩
              have hr0 := HR0.out
              have hx := HX.out
              unfold Lib.decodeN
              repeat' split
              all_goals first | rfl | (exfalso; omega)
            · have z2i : ¬ (x : Int) > 1114111 := by omega
              by_cases z3 : x ≥ 55296
              · have z3i : (x : Int) ≥ 55296 := by omega
                by_cases z4 : x < 57344
                · have z4i : (x : Int) < 57344 := by omega
                  go_wp2_with (fail)
                  (try simp only [Exit.inBlock, Exit.then])
                  refine bodyPost_ret (results_tmp3 rfl _ _ _) rfl ?_
                  refine ⟨⟨65533, 1, false, rfl, dec_no G0.out G1.out rfl rfl ?_⟩, rfl⟩
                  have hr0 := HR0.out
                  have hx := HX.out
                  unfold Lib.decodeN
                  repeat' split
                  all_goals first | rfl | (exfalso; omega)
                · have z4i : ¬ (x : Int) < 57344 := by omega
                  go_wp2_with (fail)
                  (try simp only [Exit.inBlock, Exit.then])
                  refine bodyPost_ret (results_tmp3 rfl _ _ _) rfl ?_
                  refine ⟨⟨(x : Int), 2, true, rfl, dec_yes (r := x) G0.out G1.out rfl rfl ?_ (.inr (by omega))⟩, rfl⟩
                  have hr0 := HR0.out
                  have hx := HX.out
                  unfold Lib.decodeN
                  repeat' split
                  all_goals first | (exfalso; omega) | (apply Prod.ext <;> simp only <;> omega)
              · have z3i : ¬ (x : Int) ≥ 55296 := by omega
                go_wp2_with (fail)
                (try simp only [Exit.inBlock, Exit.then])
                refine bodyPost_ret (results_tmp3 rfl _ _ _) rfl ?_
                refine ⟨⟨(x : Int), 2, true, rfl, dec_yes (r := x) G0.out G1.out rfl rfl ?_ (.inr (by omega))⟩, rfl⟩
                have hr0 := HR0.out
                have hx := HX.out
                unfold Lib.decodeN
                repeat' split
                all_goals first | (exfalso; omega) | (apply Prod.ext <;> simp only <;> omega)
  by_cases c4 : b0 < 240
  · have d0 : ¬ (b0 : Int) < 128 := by omega
    have e0 : (b0 : Int) ≥ 192 := by omega
    have e1 : ¬ (b0 : Int) < 224 := by omega
    have e2 : (b0 : Int) ≥ 224 := by omega
    have e3 : (b0 : Int) < 240 := by omega
    obtain ⟨r0, hr0⟩ : ∃ r0, b0 = 224 + r0 := ⟨b0 - 224, by omega⟩
    have hr : (b0 : Int) - 224 = (r0 : Int) := by omega
    have HR0 := Lib.hid hr0
    clear hr0 c1 c2
    by_cases hsz : s.size < 3
    · have hszi : (s.size : Int) < 3 := by omega
      go_wp2_with (fail)
      (try simp only [Exit.inBlock, Exit.then])
      refine bodyPost_ret (results_tmp3 rfl _ _ _) rfl ?_
      refine ⟨⟨65533, 1, false, rfl, dec_no G0.out rfl rfl rfl ?_⟩, rfl⟩
      have hr0 := HR0.out
      unfold Lib.decodeN
      repeat' split
      all_goals first | rfl | (exfalso; omega)
    · have hszi : ¬ (s.size : Int) < 3 := by omega
      have g1 := gb s 1 (by omega)
      obtain ⟨b1, hb1⟩ : ∃ b, s[1].toNat = b := ⟨_, rfl⟩
      have hb16 : b1 < 256 := by rw [← hb1]; exact UInt8.toNat_lt _
      rw [hb1] at g1
      have G1 := Lib.hid g1
      clear g1
      have g2 := gb s 2 (by omega)
      obtain ⟨b2, hb2⟩ : ∃ b, s[2].toNat = b := ⟨_, rfl⟩
      have hb26 : b2 < 256 := by rw [← hb2]; exact UInt8.toNat_lt _
      rw [hb2] at g2
      have G2 := Lib.hid g2
      clear g2
      go_wp2_with (fail)
      go_loopg [8, 9] 2 (fun q r i wr => ((q = 2 ∧ i = .int .i64 1 ∧ ∃ x : Nat, r = .int .i32 (x : Int) ∧ x = r0) ∨ (q = 1 ∧ i = .int .i64 2 ∧ ∃ x : Nat, r = .int .i32 (x : Int) ∧ x = (r0 * 64 + (b1 - 128)) ∧ (128 ≤ b1 ∧ b1 ≤ 191)) ∨ (q = 0 ∧ i = .int .i64 3 ∧ ∃ x : Nat, r = .int .i32 (x : Int) ∧ x = ((r0 * 64 + (b1 - 128)) * 64 + (b2 - 128)) ∧ (128 ≤ b1 ∧ b1 ≤ 191) ∧ (128 ≤ b2 ∧ b2 ≤ 191))) ∧ w = wr)
      case atStart => exact ⟨.inl ⟨rfl, rfl, r0, rfl, rfl⟩, rfl⟩
      case round =>
        obtain ⟨hd, rfl⟩ := hrel
        rcases hd with ⟨rfl, rfl, x, rfl, hx⟩ | ⟨rfl, rfl, x, rfl, hx, k1⟩ | ⟨rfl, rfl, x, rfl, hx, k1, k2⟩
        · have hxb : x ≤ 15 := by have := HR0.out; omega
          have HX := Lib.hid hx
          clear hx
          by_cases m1 : b1 < 128
          · have m1i : (b1 : Int) < 128 := by omega
            go_wp2_with (fail)
            (try simp only [Exit.inBlock, Exit.then])
            refine bodyPost_ret (results_tmp3 rfl _ _ _) rfl ?_
            refine ⟨⟨65533, 1, false, rfl, dec_no G0.out G1.out G2.out rfl ?_⟩, rfl⟩
            have hr0 := HR0.out
            have hx := HX.out
            unfold Lib.decodeN
            repeat' split
            all_goals first | rfl | (exfalso; omega)
          · have m1i : ¬ (b1 : Int) < 128 := by omega
            by_cases m2 : b1 > 191
            · have m2i : (b1 : Int) > 191 := by omega
              go_wp2_with (fail)
              (try simp only [Exit.inBlock, Exit.then])
              refine bodyPost_ret (results_tmp3 rfl _ _ _) rfl ?_
              refine ⟨⟨65533, 1, false, rfl, dec_no G0.out G1.out G2.out rfl ?_⟩, rfl⟩
              have hr0 := HR0.out
              have hx := HX.out
              unfold Lib.decodeN
              repeat' split
              all_goals first | rfl | (exfalso; omega)
            · have m2i : ¬ (b1 : Int) > 191 := by omega
              obtain ⟨y, hy⟩ : ∃ y, y = x * 64 + (b1 - 128) := ⟨_, rfl⟩
              have hyi : (x : Int) * 64 + (b1 : Int) - 128 = (y : Int) := by omega
              go_wp2_with (fail)
              go_roundg 1
              case measure => omega
              case rel => exact ⟨.inr (.inl ⟨rfl, rfl, y, congrArg (Value.int .i32) (by omega), by rw [hy, HX.out], ⟨by omega, by omega⟩⟩), rfl⟩
        · have hxb : x ≤ 1023 := by have := HR0.out; omega
          have HX := Lib.hid hx
          clear hx
          by_cases m1 : b2 < 128
          · have m1i : (b2 : Int) < 128 := by omega
            go_wp2_with (fail)
            (try simp only [Exit.inBlock, Exit.then])
            refine bodyPost_ret (results_tmp3 rfl _ _ _) rfl ?_
            refine ⟨⟨65533, 1, false, rfl, dec_no G0.out G1.out G2.out rfl ?_⟩, rfl⟩
            have hr0 := HR0.out
            have hx := HX.out
            unfold Lib.decodeN
            repeat' split
            all_goals first | rfl | (exfalso; omega)
          · have m1i : ¬ (b2 : Int) < 128 := by omega
            by_cases m2 : b2 > 191
            · have m2i : (b2 : Int) > 191 := by omega
              go_wp2_with (fail)
              (try simp only [Exit.inBlock, Exit.then])
              refine bodyPost_ret (results_tmp3 rfl _ _ _) rfl ?_
              refine ⟨⟨65533, 1, false, rfl, dec_no G0.out G1.out G2.out rfl ?_⟩, rfl⟩
              have hr0 := HR0.out
              have hx := HX.out
              unfold Lib.decodeN
              repeat' split
              all_goals first | rfl | (exfalso; omega)
            · have m2i : ¬ (b2 : Int) > 191 := by omega
              obtain ⟨y, hy⟩ : ∃ y, y = x * 64 + (b2 - 128) := ⟨_, rfl⟩
              have hyi : (x : Int) * 64 + (b2 : Int) - 128 = (y : Int) := by omega
              go_wp2_with (fail)
              go_roundg 0
              case measure => omega
              case rel => exact ⟨.inr (.inr (⟨rfl, rfl, y, congrArg (Value.int .i32) (by omega), by rw [hy, HX.out], k1, ⟨by omega, by omega⟩⟩)), rfl⟩
        · have hxb : x ≤ 65535 := by have := HR0.out; omega
          have HX := Lib.hid hx
          clear hx
          by_cases z1 : x < 2048
          · have z1i : (x : Int) < 2048 := by omega
            go_wp2_with (fail)
            (try simp only [Exit.inBlock, Exit.then])
            refine bodyPost_ret (results_tmp3 rfl _ _ _) rfl ?_
            refine ⟨⟨65533, 1, false, rfl, dec_no G0.out G1.out G2.out rfl ?_⟩, rfl⟩
            have hr0 := HR0.out
            have hx := HX.out
            unfold Lib.decodeN
            repeat' split
            all_goals first | rfl | (exfalso; omega)
          · have z1i : ¬ (x : Int) < 2048 := by omega
            by_cases z2 : x > 1114111
            · have z2i : (x : Int) > 1114111 := by omega
              go_wp2_with (fail)
              (try simp only [Exit.inBlock, Exit.then])
              refine bodyPost_ret (results_tmp3 rfl _ _ _) rfl ?_
              refine ⟨⟨65533, 1, false, rfl, dec_no G0.out G1.out G2.out rfl ?_⟩, rfl⟩
              have hr0 := HR0.out
              have hx := HX.out
              unfold Lib.decodeN
              repeat' split
              all_goals first | rfl | (exfalso; omega)
            · have z2i : ¬ (x : Int) > 1114111 := by omega
              by_cases z3 : x ≥ 55296
              · have z3i : (x : Int) ≥ 55296 := by omega
                by_cases z4 : x < 57344
                · have z4i : (x : Int) < 57344 := by omega
                  go_wp2_with (fail)
                  (try simp only [Exit.inBlock, Exit.then])
                  refine bodyPost_ret (results_tmp3 rfl _ _ _) rfl ?_
                  refine ⟨⟨65533, 1, false, rfl, dec_no G0.out G1.out G2.out rfl ?_⟩, rfl⟩
                  have hr0 := HR0.out
                  have hx := HX.out
                  unfold Lib.decodeN
                  repeat' split
                  all_goals first | rfl | (exfalso; omega)
                · have z4i : ¬ (x : Int) < 57344 := by omega
                  go_wp2_with (fail)
                  (try simp only [Exit.inBlock, Exit.then])
                  refine bodyPost_ret (results_tmp3 rfl _ _ _) rfl ?_
                  refine ⟨⟨(x : Int), 3, true, rfl, dec_yes (r := x) G0.out G1.out G2.out rfl ?_ (.inr (by omega))⟩, rfl⟩
                  have hr0 := HR0.out
                  have hx := HX.out
                  unfold Lib.decodeN
                  repeat' split
                  all_goals first | (exfalso; omega) | (apply Prod.ext <;> simp only <;> omega)
              · have z3i : ¬ (x : Int) ≥ 55296 := by omega
                go_wp2_with (fail)
                (try simp only [Exit.inBlock, Exit.then])
                refine bodyPost_ret (results_tmp3 rfl _ _ _) rfl ?_
                refine ⟨⟨(x : Int), 3, true, rfl, dec_yes (r := x) G0.out G1.out G2.out rfl ?_ (.inr (by omega))⟩, rfl⟩
                have hr0 := HR0.out
                have hx := HX.out
                unfold Lib.decodeN
                repeat' split
                all_goals first | (exfalso; omega) | (apply Prod.ext <;> simp only <;> omega)
  by_cases c5 : b0 < 248
  · have d0 : ¬ (b0 : Int) < 128 := by omega
    have e0 : (b0 : Int) ≥ 192 := by omega
    have e1 : ¬ (b0 : Int) < 224 := by omega
    have e2 : (b0 : Int) ≥ 224 := by omega
    have e3 : ¬ (b0 : Int) < 240 := by omega
    have e4 : (b0 : Int) ≥ 240 := by omega
    have e5 : (b0 : Int) < 248 := by omega
    obtain ⟨r0, hr0⟩ : ∃ r0, b0 = 240 + r0 := ⟨b0 - 240, by omega⟩
    have hr : (b0 : Int) - 240 = (r0 : Int) := by omega
    have HR0 := Lib.hid hr0
    clear hr0 c1 c2
    by_cases hsz : s.size < 4
    · have hszi : (s.size : Int) < 4 := by omega
      go_wp2_with (fail)
      (try simp only [Exit.inBlock, Exit.then])
      refine bodyPost_ret (results_tmp3 rfl _ _ _) rfl ?_
      refine ⟨⟨65533, 1, false, rfl, dec_no G0.out rfl rfl rfl ?_⟩, rfl⟩
      have hr0 := HR0.out
      unfold Lib.decodeN
      repeat' split
      all_goals first | rfl | (exfalso; omega)
    · have hszi : ¬ (s.size : Int) < 4 := by omega
      have g1 := gb s 1 (by omega)
      obtain ⟨b1, hb1⟩ : ∃ b, s[1].toNat = b := ⟨_, rfl⟩
      have hb16 : b1 < 256 := by rw [← hb1]; exact UInt8.toNat_lt _
      rw [hb1] at g1
      have G1 := Lib.hid g1
      clear g1
      have g2 := gb s 2 (by omega)
      obtain ⟨b2, hb2⟩ : ∃ b, s[2].toNat = b := ⟨_, rfl⟩
      have hb26 : b2 < 256 := by rw [← hb2]; exact UInt8.toNat_lt _
      rw [hb2] at g2
      have G2 := Lib.hid g2
      clear g2
      have g3 := gb s 3 (by omega)
      obtain ⟨b3, hb3⟩ : ∃ b, s[3].toNat = b := ⟨_, rfl⟩
      have hb36 : b3 < 256 := by rw [← hb3]; exact UInt8.toNat_lt _
      rw [hb3] at g3
      have G3 := Lib.hid g3
      clear g3
      go_wp2_with (fail)
      go_loopg [8, 9] 3 (fun q r i wr => ((q = 3 ∧ i = .int .i64 1 ∧ ∃ x : Nat, r = .int .i32 (x : Int) ∧ x = r0) ∨ (q = 2 ∧ i = .int .i64 2 ∧ ∃ x : Nat, r = .int .i32 (x : Int) ∧ x = (r0 * 64 + (b1 - 128)) ∧ (128 ≤ b1 ∧ b1 ≤ 191)) ∨ (q = 1 ∧ i = .int .i64 3 ∧ ∃ x : Nat, r = .int .i32 (x : Int) ∧ x = ((r0 * 64 + (b1 - 128)) * 64 + (b2 - 128)) ∧ (128 ≤ b1 ∧ b1 ≤ 191) ∧ (128 ≤ b2 ∧ b2 ≤ 191)) ∨ (q = 0 ∧ i = .int .i64 4 ∧ ∃ x : Nat, r = .int .i32 (x : Int) ∧ x = (((r0 * 64 + (b1 - 128)) * 64 + (b2 - 128)) * 64 + (b3 - 128)) ∧ (128 ≤ b1 ∧ b1 ≤ 191) ∧ (128 ≤ b2 ∧ b2 ≤ 191) ∧ (128 ≤ b3 ∧ b3 ≤ 191))) ∧ w = wr)
      case atStart => exact ⟨.inl ⟨rfl, rfl, r0, rfl, rfl⟩, rfl⟩
      case round =>
        obtain ⟨hd, rfl⟩ := hrel
        rcases hd with ⟨rfl, rfl, x, rfl, hx⟩ | ⟨rfl, rfl, x, rfl, hx, k1⟩ | ⟨rfl, rfl, x, rfl, hx, k1, k2⟩ | ⟨rfl, rfl, x, rfl, hx, k1, k2, k3⟩
        · have hxb : x ≤ 7 := by have := HR0.out; omega
          have HX := Lib.hid hx
          clear hx
          by_cases m1 : b1 < 128
          · have m1i : (b1 : Int) < 128 := by omega
            go_wp2_with (fail)
            (try simp only [Exit.inBlock, Exit.then])
            refine bodyPost_ret (results_tmp3 rfl _ _ _) rfl ?_
            refine ⟨⟨65533, 1, false, rfl, dec_no G0.out G1.out G2.out G3.out ?_⟩, rfl⟩
            have hr0 := HR0.out
            have hx := HX.out
            unfold Lib.decodeN
            repeat' split
            all_goals first | rfl | (exfalso; omega)
          · have m1i : ¬ (b1 : Int) < 128 := by omega
            by_cases m2 : b1 > 191
            · have m2i : (b1 : Int) > 191 := by omega
              go_wp2_with (fail)
              (try simp only [Exit.inBlock, Exit.then])
              refine bodyPost_ret (results_tmp3 rfl _ _ _) rfl ?_
              refine ⟨⟨65533, 1, false, rfl, dec_no G0.out G1.out G2.out G3.out ?_⟩, rfl⟩
              have hr0 := HR0.out
              have hx := HX.out
              unfold Lib.decodeN
              repeat' split
              all_goals first | rfl | (exfalso; omega)
            · have m2i : ¬ (b1 : Int) > 191 := by omega
              obtain ⟨y, hy⟩ : ∃ y, y = x * 64 + (b1 - 128) := ⟨_, rfl⟩
              have hyi : (x : Int) * 64 + (b1 : Int) - 128 = (y : Int) := by omega
              go_wp2_with (fail)
              go_roundg 2
              case measure => omega
              case rel => exact ⟨.inr (.inl ⟨rfl, rfl, y, congrArg (Value.int .i32) (by omega), by rw [hy, HX.out], ⟨by omega, by omega⟩⟩), rfl⟩
        · have hxb : x ≤ 511 := by have := HR0.out; omega
          have HX := Lib.hid hx
          clear hx
          by_cases m1 : b2 < 128
          · have m1i : (b2 : Int) < 128 := by omega
            go_wp2_with (fail)
            (try simp only [Exit.inBlock, Exit.then])
            refine bodyPost_ret (results_tmp3 rfl _ _ _) rfl ?_
            refine ⟨⟨65533, 1, false, rfl, dec_no G0.out G1.out G2.out G3.out ?_⟩, rfl⟩
            have hr0 := HR0.out
            have hx := HX.out
            unfold Lib.decodeN
            repeat' split
            all_goals first | rfl | (exfalso; omega)
          · have m1i : ¬ (b2 : Int) < 128 := by omega
            by_cases m2 : b2 > 191
            · have m2i : (b2 : Int) > 191 := by omega
              go_wp2_with (fail)
              (try simp only [Exit.inBlock, Exit.then])
              refine bodyPost_ret (results_tmp3 rfl _ _ _) rfl ?_
              refine ⟨⟨65533, 1, false, rfl, dec_no G0.out G1.out G2.out G3.out ?_⟩, rfl⟩
              have hr0 := HR0.out
              have hx := HX.out
              unfold Lib.decodeN
              repeat' split
              all_goals first | rfl | (exfalso; omega)
            · have m2i : ¬ (b2 : Int) > 191 := by omega
              obtain ⟨y, hy⟩ : ∃ y, y = x * 64 + (b2 - 128) := ⟨_, rfl⟩
              have hyi : (x : Int) * 64 + (b2 : Int) - 128 = (y : Int) := by omega
              go_wp2_with (fail)
              go_roundg 1
              case measure => omega
              case rel => exact ⟨.inr (.inr (.inl ⟨rfl, rfl, y, congrArg (Value.int .i32) (by omega), by rw [hy, HX.out], k1, ⟨by omega, by omega⟩⟩)), rfl⟩
        · have hxb : x ≤ 32767 := by have := HR0.out; omega
          have HX := Lib.hid hx
          clear hx
          by_cases m1 : b3 < 128
          · have m1i : (b3 : Int) < 128 := by omega
            go_wp2_with (fail)
            (try simp only [Exit.inBlock, Exit.then])
            refine bodyPost_ret (results_tmp3 rfl _ _ _) rfl ?_
            refine ⟨⟨65533, 1, false, rfl, dec_no G0.out G1.out G2.out G3.out ?_⟩, rfl⟩
            have hr0 := HR0.out
            have hx := HX.out
            unfold Lib.decodeN
            repeat' split
            all_goals first | rfl | (exfalso; omega)
          · have m1i : ¬ (b3 : Int) < 128 := by omega
            by_cases m2 : b3 > 191
            · have m2i : (b3 : Int) > 191 := by omega
              go_wp2_with (fail)
              (try simp only [Exit.inBlock, Exit.then])
              refine bodyPost_ret (results_tmp3 rfl _ _ _) rfl ?_
              refine ⟨⟨65533, 1, false, rfl, dec_no G0.out G1.out G2.out G3.out ?_⟩, rfl⟩
              have hr0 := HR0.out
              have hx := HX.out
              unfold Lib.decodeN
              repeat' split
              all_goals first | rfl | (exfalso; omega)
            · have m2i : ¬ (b3 : Int) > 191 := by omega
              obtain ⟨y, hy⟩ : ∃ y, y = x * 64 + (b3 - 128) := ⟨_, rfl⟩
              have hyi : (x : Int) * 64 + (b3 : Int) - 128 = (y : Int) := by omega
              go_wp2_with (fail)
              go_roundg 0
              case measure => omega
              case rel => exact ⟨.inr (.inr (.inr (⟨rfl, rfl, y, congrArg (Value.int .i32) (by omega), by rw [hy, HX.out], k1, k2, ⟨by omega, by omega⟩⟩))), rfl⟩
        · have hxb : x ≤ 2097151 := by have := HR0.out; omega
          have HX := Lib.hid hx
          clear hx
          by_cases z1 : x < 65536
          · have z1i : (x : Int) < 65536 := by omega
            go_wp2_with (fail)
            (try simp only [Exit.inBlock, Exit.then])
            refine bodyPost_ret (results_tmp3 rfl _ _ _) rfl ?_
            refine ⟨⟨65533, 1, false, rfl, dec_no G0.out G1.out G2.out G3.out ?_⟩, rfl⟩
            have hr0 := HR0.out
            have hx := HX.out
            unfold Lib.decodeN
            repeat' split
            all_goals first | rfl | (exfalso; omega)
          · have z1i : ¬ (x : Int) < 65536 := by omega
            by_cases z2 : x > 1114111
            · have z2i : (x : Int) > 1114111 := by omega
              go_wp2_with (fail)
              (try simp only [Exit.inBlock, Exit.then])
              refine bodyPost_ret (results_tmp3 rfl _ _ _) rfl ?_
              refine ⟨⟨65533, 1, false, rfl, dec_no G0.out G1.out G2.out G3.out ?_⟩, rfl⟩
              have hr0 := HR0.out
              have hx := HX.out
              unfold Lib.decodeN
              repeat' split
              all_goals first | rfl | (exfalso; omega)
            · have z2i : ¬ (x : Int) > 1114111 := by omega
              by_cases z3 : x ≥ 55296
              · have z3i : (x : Int) ≥ 55296 := by omega
                by_cases z4 : x < 57344
                · have z4i : (x : Int) < 57344 := by omega
                  go_wp2_with (fail)
                  (try simp only [Exit.inBlock, Exit.then])
                  refine bodyPost_ret (results_tmp3 rfl _ _ _) rfl ?_
                  refine ⟨⟨65533, 1, false, rfl, dec_no G0.out G1.out G2.out G3.out ?_⟩, rfl⟩
                  have hr0 := HR0.out
                  have hx := HX.out
                  unfold Lib.decodeN
                  repeat' split
                  all_goals first | rfl | (exfalso; omega)
                · have z4i : ¬ (x : Int) < 57344 := by omega
                  go_wp2_with (fail)
                  (try simp only [Exit.inBlock, Exit.then])
                  refine bodyPost_ret (results_tmp3 rfl _ _ _) rfl ?_
                  refine ⟨⟨(x : Int), 4, true, rfl, dec_yes (r := x) G0.out G1.out G2.out G3.out ?_ (.inr (by omega))⟩, rfl⟩
                  have hr0 := HR0.out
                  have hx := HX.out
                  unfold Lib.decodeN
                  repeat' split
                  all_goals first | (exfalso; omega) | (apply Prod.ext <;> simp only <;> omega)
              · have z3i : ¬ (x : Int) ≥ 55296 := by omega
                go_wp2_with (fail)
                (try simp only [Exit.inBlock, Exit.then])
                refine bodyPost_ret (results_tmp3 rfl _ _ _) rfl ?_
                refine ⟨⟨(x : Int), 4, true, rfl, dec_yes (r := x) G0.out G1.out G2.out G3.out ?_ (.inr (by omega))⟩, rfl⟩
                have hr0 := HR0.out
                have hx := HX.out
                unfold Lib.decodeN
                repeat' split
                all_goals first | (exfalso; omega) | (apply Prod.ext <;> simp only <;> omega)
  · have d1 : ¬ (b0 : Int) < 128 := by omega
    have d2 : ¬ (b0 : Int) < 224 := by omega
    have d3 : ¬ (b0 : Int) < 240 := by omega
    have d4 : ¬ (b0 : Int) < 248 := by omega
    go_wp2_with (fail)
    (try simp only [Exit.inBlock, Exit.then])
    refine bodyPost_ret (results_tmp3 rfl _ _ _) rfl ?_
    refine ⟨⟨65533, 1, false, rfl, dec_no G0.out rfl rfl rfl ?_⟩, rfl⟩
    unfold Lib.decodeN
    repeat' split
    all_goals first | rfl | (exfalso; omega)
end Go.Proofs.Ytjokghnlmaaejaa
