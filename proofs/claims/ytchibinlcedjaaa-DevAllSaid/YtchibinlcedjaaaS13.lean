import Derived.Test.YtchibinlcedjaaaS12
namespace Go.Proofs.Ytchibinlcedjaaa
open Go.RowKit
theorem open_out (w : World) (p b : Nat) (D : DM) (h : DevAt w p b D) (at_ : Int) (h1 : at_ < 0 ∨ (D.secs.length : Int) - 1 ≤ at_) :
    Calls Try.prog 31 #[.pointer (some ⟨p, 0, none⟩), .int .i64 at_] w fun e w' => e = .returned (.tuple #[.pointer none, .int .i64 3]) ∧ w = w' := by
  have HT := there_c w p b D h at_
  have hd : (decide (0 ≤ at_) && decide (at_ < (D.secs.length : Int) - 1)) = false := by
    simp; omega
  rw [hd] at HT
  have HT := Lib.hid HT
  clear h hd
  go_enter Try.func31, Try.ntmps31
  go_wp2_with (go_at_call 40; refine (HT.out).mono ?_; rintro e w' ⟨rfl, rfl⟩)
  go_ret2
  exact ⟨rfl, rfl⟩
theorem SupX.drewN {w : World} {s p : Nat} {at_ x0 n0 : Int} {l0 : List UInt8} (h : SupX w s p at_ x0 n0 l0) (n : Nat) : SupX (w.drewN n) s p at_ x0 n0 l0 := by
  obtain ⟨tv, h⟩ := h
  exact ⟨tv, h.head.drewN n, h.text⟩
theorem Below.drewN {B : Nat} {a w : World} (h : Below B a w) (n : Nat) : Below B a (w.drewN n) := ⟨h.os, h.tape, h.output, h.size, h.block⟩
def Opened (B p : Nat) (at_ : Int) (t : St) (e : Ending) (w' : World) : Prop :=
  if t.turn = 0 then e = .returned (.tuple #[.pointer none, .int .i64 8]) else ∃ s, e = .returned (.tuple #[.pointer (some ⟨s, 0, none⟩), .int .i64 0]) ∧ B ≤ s ∧ SupX w' s p at_ t.slot t.turn t.text
theorem stAt_ok (o : Nat → Slot) (ho : ∀ k, slotOk (o k)) : ∀ k, (stAt o k).turn ≤ 100000 ∧ (stAt o k).text.length ≤ 40 ∧ 0 ≤ (stAt o k).slot ∧ (stAt o k).slot < k + 1
  | 0 => ⟨by simp [stAt], by simp [stAt], by simp [stAt], by simp [stAt]⟩
  | k + 1 => by
    obtain ⟨h1, h2, h3, h4⟩ := stAt_ok o ho k
    have := ho k
    simp only [stAt]
    cases hq : o k with
    | none => exact ⟨h1, h2, h3, by simp only [St.see]; omega⟩
    | some x =>
      obtain ⟨n, l⟩ := x
      rw [hq] at this
      obtain ⟨g1, g2, g3⟩ := this
      simp only [St.see]
      split
      · exact ⟨g2, g3, by simp, by simp; omega⟩
      · exact ⟨h1, h2, h3, by omega⟩
set_option maxHeartbeats 2000000 in
theorem open_c (w : World) (p b : Nat) (D : DM) (h : DevAt w p b D) (a : Nat) (h1 : a + 1 < D.secs.length) (o : Nat → Slot) (ho : ∀ k, slotOk (o k)) (hn : ∀ k, k < 2 → (D.secs[a + k]?).map (·.now) = some (slotImg (o k))) :
    Calls Try.prog 31 #[.pointer (some ⟨p, 0, none⟩), .int .i64 (a : Int)] w fun e w' => Opened w.heap.size p a (stAt o 2) e w' ∧ Below w.heap.size w w' := by
  have hXl : D.secs.length ≤ 2048 := h.2.2.2.2.1
  have HT := there_c w p b _ h (a : Int)
  have hd : (decide (0 ≤ (a : Int)) && decide ((a : Int) < (D.secs.length : Int) - 1)) = true := by
    simp; omega
  rw [hd] at HT
  have HT := Lib.hid HT
  have HD := Lib.hid h
  have HO := Lib.hid ho
  have HN := Lib.hid hn
  have hpl := h.lt
  have h0 : (0 : Int) ≤ (a : Int) := by omega
  have h2 : (a : Int) ≤ 2048 := by omega
  clear h hd ho hn
  go_enter Try.func31, Try.ntmps31
  go_upto_region 4 with (go_at_call 40; refine (HT.out).mono ?_; rintro e w' ⟨rfl, rfl⟩)
  have hbx : SupX (w.alloc (.cells #[.pointer (some ⟨p, 0, none⟩), .int .i64 (a : Int), .int .i64 0, .int .i64 0, .slice none 0 0] 73)) w.heap.size p (a : Int) 0 0 [] :=
    ⟨_, Bl.new w 73 [.pointer (some ⟨p, 0, none⟩), .int .i64 (a : Int), .int .i64 0, .int .i64 0, .slice none 0 0], by simp [bv], .inl ⟨rfl, rfl⟩⟩
  have HBX := Lib.hid hbx
  have FR0 := Lib.hid ((Below.refl w.heap.size w).alloc (Nat.le_refl _) (.cells #[.pointer (some ⟨p, 0, none⟩), .int .i64 (a : Int), .int .i64 0, .int .i64 0, .slice none 0 0] 73))
  clear hbx
  generalize w.alloc (.cells #[.pointer (some ⟨p, 0, none⟩), .int .i64 (a : Int), .int .i64 0, .int .i64 0, .slice none 0 0] 73) = w5 at *
  go_wp2_with (fail)
  go_loopg [19] 2 (fun q i wr => ∃ k : Nat, k + q = 2 ∧ i = .int .i64 (k : Int) ∧ SupX wr w.heap.size p (a : Int) (stAt o k).slot (stAt o k).turn (stAt o k).text ∧ Below w.heap.size w wr)
  case atStart => exact ⟨0, rfl, rfl, HBX.out, FR0.out⟩
  case round =>
    obtain ⟨k, hk, rfl, hS, bel⟩ := hrel
    have HS := Lib.hid hS
    have BEL := Lib.hid bel
    obtain ⟨g1, g2, g3, g4⟩ := stAt_ok o HO.out k
    have hz := bel.size
    clear hS bel
    by_cases hlt : k < 2
    · have hi2 : (k : Int) < 2 := by omega
      have hk0 : (0 : Int) ≤ (k : Int) := by omega
      have hw : IntKind.wrap .i64 ((a : Int) + (k : Int)) = ((a + k : Nat) : Int) := by
        simp [IntKind.wrap, IntKind.bits, IntKind.signed]
        omega
      have hD := HD.out.below BEL.out hpl.1 hpl.2
      have HR := Lib.hid (read_c wr p b D hD (a + k) (by omega))
      have hnow : (D.secs[a + k]'(by omega)).now = slotImg (o k) := by
        have := HN.out k hlt
        rw [List.getElem?_eq_getElem (by omega)] at this
        exact Option.some.inj this
      rw [hnow] at HR
      clear hD hnow
      go_wp2_with (fail)
      refine HR.out.mono ?_
      rintro e w6 ⟨⟨g, c, rfl, own⟩, bel6⟩
      have hgl := own_lt own
      have hcc : 64 ≤ c := by
        obtain ⟨_, ⟨h, _⟩ | ⟨g', cap, cur, h, _, _, h5, _⟩⟩ := own
        · cases h
        · injection h with _ _ h; omega
      have hx := Sl.of_own own
      have HS6 : SupX w6 w.heap.size p (a : Int) (stAt o k).slot (stAt o k).turn (stAt o k).text := by
        obtain ⟨tv, h⟩ := HS.out
        exact ⟨tv, h.head.below bel6 h.head.lt, ownsRow_fr h.text (Fr.of_below bel6) (by simp)⟩
      have hc4 : ¬ c = 4 := by omega
      have hx64 : (slotImg (o k)).length = 64 := by
        have := HO.out k
        cases hq : o k with
        | none => rfl
        | some x =>
          obtain ⟨n, l⟩ := x
          rw [hq] at this
          exact img_len n l (by have := this.2.2; omega)
      have hG := get_c _ _ _ _ (hx.sub 4 12 8 rfl (by omega)) (by simp; omega)
      have hC := fun q => sum_c _ _ (w6.drewN q) _ ((hx.sub 4 64 60 rfl (by omega)).drewN q)
      have hG0 := fun q => get_c _ _ (w6.drewN q) _ ((hx.sub 0 4 4 rfl (by omega)).drewN q) (by simp; omega)
      rw [List.drop_zero] at hG0
      simp only [Nat.sub_zero] at hG0
      have c3 : w6.cell? ⟨w.heap.size, 3, none⟩ = some (.int .i64 ((stAt o k).turn : Int)) := by
        obtain ⟨tv, h⟩ := HS6
        exact h.head.cell 3
      have HS6 := Lib.hid HS6
      have BEL6 := Lib.hid (BEL.out.trans (bel6.mono hz))
      have hsl : w.heap.size < w6.heap.size := by
        obtain ⟨tv, h⟩ := HS6.out
        exact h.head.lt
      have OWN := Lib.hid own
      have hokk := HO.out k
      obtain ⟨T, hT⟩ : ∃ T, Hid (stAt o k = T) := ⟨_, rfl⟩
      have hT1 : Hid (stAt o (k + 1) = T.see k (o k)) := by
        show stAt o (k + 1) = _
        rw [← hT.out]; rfl
      rw [hT.out] at HS6 c3 g1 g2 g3 g4
      obtain ⟨tn, htn⟩ : ∃ tn, Hid (T.turn = tn) := ⟨_, rfl⟩
      rw [htn.out] at c3 g1
      clear own bel6 HR
      cases hq : o k with
      | none =>
        rw [hq] at hG hC hG0 hT1
        simp only [slotImg] at hG hC hG0
        rw [show num ((zero64.drop 4).take 8) 0 = 0 from rfl] at hG
        rw [show num (zero64.take 4) 0 = 0 from rfl] at hG0
        obtain ⟨k1, hk1⟩ : ∃ k1, Hid ((crc 0#32 ((zero64.drop 4).take 60)).toNat = k1) := ⟨_, rfl⟩
        have hck : (crc 0#32 ((zero64.drop 4).take 60)).toNat < 4294967296 := (crc 0#32 ((zero64.drop 4).take 60)).isLt
        unfold Go.Proofs.Ytchibinlcedjaaa.u32 at hC
        rw [hk1.out] at hC hck
        have hkw : IntKind.wrap .u64 (k1 : Int) = (k1 : Int) := by
          simp [IntKind.wrap, IntKind.bits, IntKind.signed]
          omega
        have hd0 : decide ((tn : Int) < 0) = false := by simp
        have HG := Lib.hid hG
        have HC := Lib.hid hC
        have HG0 := Lib.hid hG0
        clear hG hC hG0 hx hokk
        rcases Bool.eq_false_or_eq_true ((k1 : Int) == (0 : Int)) with hb | hb
        all_goals
          go_wp2_with (fail)
          refine HG.out.mono ?_
          rintro e w' ⟨rfl, rfl⟩
          go_upto_region 11 with (fail)
          go_quiet ((first | (go_at_call 43; exact quiet_same (HC.out _)) | (go_at_call 42; exact quiet_same (HG0.out _))))
          go_wp2_with (fail)
          go_roundg (2 - (k + 1))
          case measure => omega
          case rel =>
            refine ⟨k + 1, by omega, by go_num, ?_, Below.drewN BEL6.out _⟩
            rw [hT1.out]
            exact HS6.out.drewN _
      | some x =>
        obtain ⟨n, l⟩ := x
        rw [hq] at hG hC hG0 hT1 hx hokk
        obtain ⟨hn1, hn2, hl⟩ : 1 ≤ n ∧ n ≤ 100000 ∧ l.length ≤ 40 := hokk
        simp only [slotImg] at hG hC hG0 hx
        have hC : ∀ q, Calls Try.prog 43 #[.slice (some ⟨g, 4, none⟩) 60 (c - 4)] (w6.drewN q) fun e w' => e = .returned (.int .u32 ((crc 0#32 (((img n l).drop 4).take 60)).toNat : Int)) ∧ w6.drewN q = w' := hC
        rw [img_drop, List.take_of_length_le (by rw [body_len n l (by omega)]; decide)] at hC
        rw [img_turn, num_be, Nat.mod_eq_of_lt (by omega)] at hG
        have hck : (crc 0#32 (body n l)).toNat < 4294967296 := (crc 0#32 (body n l)).isLt
        rw [img_take, num_be, Nat.mod_eq_of_lt (by omega)] at hG0
        generalize (crc 0#32 (body n l)).toNat = k1 at *
        have hkw : IntKind.wrap .u64 (k1 : Int) = (k1 : Int) := by
          simp [IntKind.wrap, IntKind.bits, IntKind.signed]
          omega
        have hb : ((k1 : Int) == (k1 : Int)) = true := by simp
        have HG := Lib.hid hG
        have HC := Lib.hid hC
        have HG0 := Lib.hid hG0
        have HX := Lib.hid hx
        obtain ⟨g', off, e1, _, c12⟩ := hx.at_ 12 (by rw [img_len n l (by omega)]; decide)
        injection e1 with e1
        injection e1 with e1 e2
        subst e1 e2
        have e3 : (img n l)[12]'(by rw [img_len n l (by omega)]; decide) = UInt8.ofNat l.length := by
          have := img_at n l
          rw [List.getElem?_eq_getElem (by rw [img_len n l (by omega)]; decide)] at this
          exact Option.some.inj this
        rw [e3, UInt8.toNat_ofNat', Nat.mod_eq_of_lt (by omega), Nat.zero_add] at c12
        clear hG hC hG0 hx e3
        by_cases hgt : tn < n
        · have hd0 : decide ((tn : Int) < (n : Int)) = true := by simpa using hgt
          have hd1 : decide ((l.length : Int) ≤ 40) = true := by simp; omega
          go_wp2_with (fail)
          refine HG.out.mono ?_
          rintro e w' ⟨rfl, rfl⟩
          go_upto_region 11 with (fail)
          go_quiet ((first | (go_at_call 43; exact quiet_same (HC.out _)) | (go_at_call 42; exact quiet_same (HG0.out _))))
          go_wp2_with (fail)
          have htx := (HX.out.sub 13 (13 + l.length) l.length rfl (by rw [img_len n l (by omega)]; omega)).drewN nq
          rw [img_text] at htx
          refine (clone_any (w6.drewN nq) _ l htx (by omega)).mono ?_
          rintro e w8 ⟨⟨v8, rfl, own8⟩, b8⟩
          obtain ⟨av8, cv8, rfl⟩ := own_form own8
          obtain ⟨tv, hs6⟩ := HS6.out.drewN nq
          have hh8 := hs6.head.below b8 hs6.head.lt
          obtain ⟨y2, d2⟩ : ∃ y2, w8.cell? ⟨w.heap.size, 2, none⟩ = some y2 := ⟨_, hh8.cell 2⟩
          obtain ⟨y3, d3⟩ : ∃ y3, w8.cell? ⟨w.heap.size, 3, none⟩ = some y3 := ⟨_, hh8.cell 3⟩
          obtain ⟨y4, d4⟩ : ∃ y4, w8.cell? ⟨w.heap.size, 4, none⟩ = some y4 := ⟨_, hh8.cell 4⟩
          have q2 := hh8.free 2
          have q3 := hh8.free 3
          have q4 := hh8.free 4
          have ho8 := own_ne own8 hh8 (by decide)
          have HH8 := Lib.hid ((((hh8.set 2 (.int .i64 (k : Int))).set 3 (.int .i64 (n : Int))).set 4 (.slice av8 l.length cv8)))
          have FR8 := Lib.hid (((((Fr.refl [w.heap.size] w8).setCell (p := ⟨w.heap.size, 2, none⟩) (by simp) (.int .i64 (k : Int))).setCell (p := ⟨w.heap.size, 3, none⟩) (by simp) (.int .i64 (n : Int))).setCell (p := ⟨w.heap.size, 4, none⟩) (by simp) (.slice av8 l.length cv8)))
          have OWN8 := Lib.hid own8
          have B8 := Lib.hid ((Below.drewN BEL6.out nq).trans (b8.mono (by show w.heap.size ≤ w6.heap.size; omega)))
          clear own8 b8 hh8 htx hs6
          go_wp2_with (fail)
          go_roundg (2 - (k + 1))
          case measure => omega
          case rel =>
            refine ⟨k + 1, by omega, by go_num, ?_, B8.out.trans (FR8.out.below (B := w.heap.size) B8.out.size (by simp))⟩
            rw [hT1.out]
            unfold St.see
            simp only
            rw [if_pos (by rw [htn.out]; exact hgt)]
            exact ⟨_, HH8.out, ownsRow_fr OWN8.out FR8.out (by
              intro j hj hm
              simp only [List.mem_cons, List.not_mem_nil, or_false] at hm
              subst hm
              exact ho8 hj)⟩
        · have hd0 : decide ((tn : Int) < (n : Int)) = false := by simpa using hgt
          go_wp2_with (fail)
          refine HG.out.mono ?_
          rintro e w' ⟨rfl, rfl⟩
          go_upto_region 11 with (fail)
          go_quiet ((first | (go_at_call 43; exact quiet_same (HC.out _)) | (go_at_call 42; exact quiet_same (HG0.out _))))
          go_wp2_with (fail)
          go_roundg (2 - (k + 1))
          case measure => omega
          case rel =>
            refine ⟨k + 1, by omega, by go_num, ?_, Below.drewN BEL6.out _⟩
            rw [hT1.out]
            unfold St.see
            simp only
            rw [if_neg (by rw [htn.out]; exact hgt)]
            exact HS6.out.drewN _
    · have e : k = 2 := by omega
      subst e
      obtain ⟨T, hT⟩ : ∃ T, Hid (stAt o 2 = T) := ⟨_, rfl⟩
      rw [hT.out] at HS
      have c3 : wr.cell? ⟨w.heap.size, 3, none⟩ = some (.int .i64 (T.turn : Int)) := by
        obtain ⟨tv, h⟩ := HS.out
        exact h.head.cell 3
      by_cases hz0 : T.turn = 0
      · rw [hz0] at c3
        go_wp2_with (fail)
        go_ret2
        unfold Opened
        rw [hT.out, if_pos hz0]
        exact ⟨rfl, BEL.out⟩
      · have hz1 : ((T.turn : Int) == 0) = false := by simp; omega
        go_wp2_with (fail)
        go_ret2
        unfold Opened
        rw [hT.out, if_neg hz0]
        exact ⟨⟨_, rfl, Nat.le_refl _, HS.out⟩, BEL.out⟩
end Go.Proofs.Ytchibinlcedjaaa
