import Derived.Test.YtjokghnlmaaejaaM1
import Derived.Test.YtjokghnlmaaejaaK3
namespace Go.Proofs.Ytjokghnlmaaejaa
open Go.RowKit
/-! ### JudgeOrder: the walk -/
theorem own_form {w : World} {base : Nat} {e : TypeId} {size : Nat} {v : Value} {n : Nat} {xs : List Value} (h : w.ownsRow base e size v n xs) : ∃ a cap, v = .slice a n cap := by
  obtain ⟨_, ⟨rfl, rfl⟩ | ⟨g, cap, cur, rfl, _⟩⟩ := h
  · exact ⟨none, 0, rfl⟩
  · exact ⟨_, cap, rfl⟩
theorem revN_succ (n k : Nat) : revN n (k + 1) = revN n k ++ [n - 1 - k] := by
  unfold revN
  rw [List.range_succ, List.map_append]
  rfl
structure Two (w0 : Nat) (w : World) (a b : Value) (la lb : List RR) : Prop where
  ra : w.ownsRow w0 26 5 a la.length (rrs la)
  rb : w.ownsRow w0 26 5 b lb.length (rrs lb)
  ne : ∀ g, a.ownBlock = some g → b.ownBlock ≠ some g
theorem own_lt {w : World} {base : Nat} {e : TypeId} {size : Nat} {v : Value} {n : Nat} {xs : List Value} (h : w.ownsRow base e size v n xs) {k : Nat} (hk : v.ownBlock = some k) : k < w.heap.size := by
  obtain ⟨_, ⟨rfl, _⟩ | ⟨g, cap, cur, rfl, hg, hh, _⟩⟩ := h
  · cases hk
  · have e2 : g = k := Option.some.inj hk
    subst e2
    rcases Nat.lt_or_ge g w.heap.size with hlt | hge
    · exact hlt
    · rw [Array.getElem?_eq_none hge] at hh; cases hh
theorem Two.swap {w0 : Nat} {w : World} {a b : Value} {la lb : List RR} (h : Two w0 w a b la lb) : Two w0 w b a lb la := ⟨h.rb, h.ra, fun g hg ha => h.ne g ha hg⟩
theorem Two.fr {w0 : Nat} {w w' : World} {a b : Value} {la lb : List RR} (h : Two w0 w a b la lb) (f : Fr [] w w') : Two w0 w' a b la lb := ⟨ownsRow_fr h.ra f (by simp), ownsRow_fr h.rb f (by simp), h.ne⟩
theorem Two.push {w0 N n' : Nat} {w w' : World} {a b a' : Value} {la lb : List RR} {r : RR} (h : Two w0 w a b la lb) (own : w'.ownsRow w0 26 5 a' n' (rrs la ++ rrs [r])) (hnl : n' = la.length + 1) (gr : w.grownBy w' a.ownBlock) (hn : ∀ g, a'.ownBlock = some g → a.ownBlock = some g ∨ N ≤ g) (hN : w.heap.size ≤ N) :
    Two w0 w' a' b (la ++ [r]) lb := by
  subst hnl
  refine ⟨by rw [List.length_append, rrs_app]; exact own, ?_, fun g hg hb => ?_⟩
  · obtain ⟨h1, h2 | ⟨g, cap, cur, rfl, hg, hh, rest⟩⟩ := h.rb
    · exact ⟨h1, .inl h2⟩
    · have hlt : g < w.heap.size := own_lt h.rb rfl
      exact ⟨h1, .inr ⟨g, cap, cur, rfl, hg, (gr.block g hlt (fun e => h.ne g e.symm rfl)).trans hh, rest⟩⟩
  · rcases hn g hg with h1 | h1
    · exact h.ne g h1 hb
    · have := own_lt h.rb hb
      omega
theorem conv_key (W : World) (k : Nat) (hk : k < 31) : (convert 44 9 (.slice (some ⟨W.heap.size, 0, none⟩) 1 1)).run Try.prog (W.alloc (.cells #[.int .u8 (97 + (k : Int))] 5)) = .ok (.string (keyN k)) (W.alloc (.cells #[.int .u8 (97 + (k : Int))] 5)) := by
  have h0 : (W.alloc (.cells #[.int .u8 (97 + (k : Int))] 5)).cell? ⟨W.heap.size, 0, none⟩ = some (.int .u8 (97 + (k : Int))) := (Bl.new W 5 [.int .u8 (97 + (k : Int))]).cell 0
  refine run_convert_bytes_back (P := Try.prog) (W.alloc (.cells #[.int .u8 (97 + (k : Int))] 5)) 44 9 5 ⟨W.heap.size, 0, none⟩ 1 [UInt8.ofNat (97 + k)] Try.underlying44 Try.underlying5 Try.underlying9 (fun j hj => ?_)
  have : j = 0 := by simpa using hj
  subst this
  rw [add_at, Nat.zero_add, h0]
  simp
  omega
set_option maxHeartbeats 4000000 in
set_option maxRecDepth 100000 in
theorem judgeOrder_walk (w : World) {n : Int} (hn : (Lit.int .i64 n).wf = true) {step : Int} (hs : (Lit.int .i64 step).wf = true) :
    Calls Try.prog 5 #[.int .i64 n, .int .i64 step] w fun e w' => e = .returned (.bool true) ∧ Below w.heap.size w w' := by
  have hn' := bounds_i64 hn
  have hs' := bounds_i64 hs
  have HB := Lib.hid (begun_c w)
  clear hn hs
  go_enter Try.func5, Try.ntmps5
  go_wp2_with (fail)
  refine HB.out.mono ?_
  rintro e w1 ⟨rfl, bel⟩
  have hz1 := bel.size
  have B1 := Lib.hid bel
  clear bel HB
  by_cases h1 : n < 0
  · go_wp2_with (fail)
    go_ret
    exact ⟨rfl, B1.out⟩
  by_cases h2 : n > 30
  · go_wp2_with (fail)
    go_ret
    exact ⟨rfl, B1.out⟩
  by_cases h3 : step < 1
  · go_wp2_with (fail)
    go_ret
    exact ⟨rfl, B1.out⟩
  by_cases h4 : step > 30
  · go_wp2_with (fail)
    go_ret
    exact ⟨rfl, B1.out⟩
  obtain ⟨n, rfl⟩ := Int.eq_ofNat_of_zero_le (by omega : 0 ≤ n)
  obtain ⟨s, rfl⟩ := Int.eq_ofNat_of_zero_le (by omega : 0 ≤ step)
  have hn30 : n ≤ 30 := by omega
  have hs30 : 1 ≤ s ∧ s ≤ 30 := by omega
  go_upto_region 8 with (fail)
  go_loopg [6, 7, 8] n (fun q a b i wr => ∃ (k : Nat), k + q = n ∧ i = .int .i64 (k : Int) ∧ Two w1.heap.size wr a b ((List.range k).map recN) ((seqB n s k).map recN) ∧ Below w.heap.size w wr ∧ w1.heap.size ≤ wr.heap.size)
  case atStart => exact ⟨0, by omega, rfl, ⟨World.ownsRow_nil _ _ _ _, World.ownsRow_nil _ _ _ _, fun g hg => by cases hg⟩, B1.out, Nat.le_refl _⟩
  case round =>
    obtain ⟨k, hk, rfl, two, bel, hw1⟩ := hrel
    have BEL := Lib.hid bel
    have TWO := Lib.hid two
    clear two bel
    by_cases hlt : k < n
    · have i4 : (k : Int) < (n : Int) := by omega
      have hks : k * s ≤ 900 := Nat.mul_le_mul (by omega : k ≤ 30) hs30.2
      obtain ⟨m, hm⟩ : ∃ m, m = k * s % 31 := ⟨_, rfl⟩
      have hr : (wrap64 ((k : Int) * (s : Int))).tmod 31 = (m : Int) := by
        rw [← Int.natCast_mul, IntWalk.wrap64_in _ (by omega), hm]
        rfl
      have hm31 : m < 31 := by rw [hm]; exact Nat.mod_lt _ (by decide)
      have hcv := conv_key wr k (by omega)
      have HM := Lib.hid hm
      clear hm hks
      go_upto_region 11 with (fail)
      clear hr
      have two3 : Two w1.heap.size ((wr.alloc (.cells #[.int .u8 (97 + (k : Int))] 5)).alloc (.cells (rrs [recN k]).toArray 26)) _ _ _ _ := TWO.out.fr (((Fr.refl _ _).alloc _).alloc _)
      have hbl3 : Bl ((wr.alloc (.cells #[.int .u8 (97 + (k : Int))] 5)).alloc (.cells (rrs [recN k]).toArray 26)) (wr.alloc (.cells #[.int .u8 (97 + (k : Int))] 5)).heap.size 26 (rrs [recN k]) := Bl.new _ _ _
      have bel3 := (BEL.out.alloc BEL.out.size (.cells #[.int .u8 (97 + (k : Int))] 5)).alloc ((BEL.out.alloc BEL.out.size (.cells #[.int .u8 (97 + (k : Int))] 5)).size) (.cells (rrs [recN k]).toArray 26)
      have TWO3 := Lib.hid two3
      have HBL3 := Lib.hid hbl3
      have BEL3 := Lib.hid bel3
      have hsz3 : w1.heap.size ≤ ((wr.alloc (.cells #[.int .u8 (97 + (k : Int))] 5)).alloc (.cells (rrs [recN k]).toArray 26)).heap.size := by simp; omega
      have HSZ3 := Lib.hid hsz3
      clear two3 hbl3 bel3 hsz3
      have eh : (wr.alloc (.cells #[.int .u8 (97 + (k : Int))] 5)).heap.size = wr.heap.size + 1 := by simp
      rw [eh] at HBL3
      clear eh
      go_upto_region 12 with (at_builtin; refine wpList_appS (.tmp 37) (.tmp 46) 39 rfl rfl w1.heap.size 26 _ 5 56 und39 info26 rfl (by decide) _ _ _ rfl TWO3.out.ra _ 1 (rrs [recN k]) rfl HBL3.out rfl (rrs_one _) ?a5 ?a6 ?a7 ?_)
      case a5 => simp only [List.length_map, List.length_range]; unfold maxLen; omega
      case a6 => simp only [List.length_map, List.length_range]; omega
      case a7 => exact HSZ3.out
      intro v4 w4 own4 g4 hn4
      have hz4 := Nat.le_trans HSZ3.out g4.size
      have TWO4 := Lib.hid (TWO3.out.push (r := recN k) own4 (by simp) g4 hn4 (by simp))
      have BEL4 := Lib.hid (BEL3.out.grown g4 BEL3.out.size (fun j hj => Nat.le_trans hz1 (own_ge TWO3.out.ra hj (Nat.le_refl _))))
      have hrange : (List.range k).map recN ++ [recN k] = (List.range (k + 1)).map recN := by rw [List.range_succ, List.map_append]; rfl
      rw [hrange] at TWO4
      have hbl := seqB_len n s k
      clear own4 g4 hn4 TWO3 HBL3 BEL3 HSZ3 hcv hrange
      by_cases hmn : m < n
      · have i6 : (m : Int) < (n : Int) := by omega
        have hseq : seqB n s (k + 1) = seqB n s k ++ [m] := by rw [seqB, if_pos (by rw [← HM.out]; exact hmn), ← HM.out]
        have HSEQ := Lib.hid hseq
        have hcv := conv_key w4 m hm31
        have two3 : Two w1.heap.size ((w4.alloc (.cells #[.int .u8 (97 + (m : Int))] 5)).alloc (.cells (rrs [recN m]).toArray 26)) _ _ _ _ := TWO4.out.swap.fr (((Fr.refl _ _).alloc _).alloc _)
        have hbl3 : Bl ((w4.alloc (.cells #[.int .u8 (97 + (m : Int))] 5)).alloc (.cells (rrs [recN m]).toArray 26)) (w4.alloc (.cells #[.int .u8 (97 + (m : Int))] 5)).heap.size 26 (rrs [recN m]) := Bl.new _ _ _
        have bel3 := (BEL4.out.alloc BEL4.out.size (.cells #[.int .u8 (97 + (m : Int))] 5)).alloc ((BEL4.out.alloc BEL4.out.size (.cells #[.int .u8 (97 + (m : Int))] 5)).size) (.cells (rrs [recN m]).toArray 26)
        have TWO3 := Lib.hid two3
        have HBL3 := Lib.hid hbl3
        have BEL3 := Lib.hid bel3
        have hsz3 : w1.heap.size ≤ ((w4.alloc (.cells #[.int .u8 (97 + (m : Int))] 5)).alloc (.cells (rrs [recN m]).toArray 26)).heap.size := by simp; omega
        have HSZ3 := Lib.hid hsz3
        have eh : (w4.alloc (.cells #[.int .u8 (97 + (m : Int))] 5)).heap.size = w4.heap.size + 1 := by simp
        rw [eh] at HBL3
        clear two3 hbl3 bel3 hsz3 eh hseq
        go_wp2_with (at_builtin; refine wpList_appS (.tmp 51) (.tmp 60) 39 rfl rfl w1.heap.size 26 _ 5 56 und39 info26 rfl (by decide) _ _ _ rfl TWO3.out.ra _ 1 (rrs [recN m]) rfl HBL3.out rfl (rrs_one _) ?a5 ?a6 ?a7 ?_)
        case a5 => simp only [List.length_map]; unfold maxLen; omega
        case a6 => simp only [List.length_map]; omega
        case a7 => exact HSZ3.out
        intro v5 w5 own5 g5 hn5
        have hz5 := Nat.le_trans HSZ3.out g5.size
        have TWO5 := Lib.hid (TWO3.out.push (r := recN m) own5 (by simp) g5 hn5 (by simp)).swap
        have BEL5 := Lib.hid (BEL3.out.grown g5 BEL3.out.size (fun j hj => Nat.le_trans hz1 (own_ge TWO3.out.ra hj (Nat.le_refl _))))
        clear own5 g5 hn5 TWO3 HBL3 BEL3 HSZ3 hcv
        go_wp2_with (fail)
        go_roundg (n - (k + 1))
        case measure => omega
        case rel => exact ⟨k + 1, by omega, by go_num, by rw [HSEQ.out, List.map_append]; exact TWO5.out, BEL5.out, hz5⟩
      · have i6 : ¬ (m : Int) < (n : Int) := by omega
        have hseq : seqB n s (k + 1) = seqB n s k := by rw [seqB, if_neg (by rw [← HM.out]; exact hmn), List.append_nil]
        have HSEQ := Lib.hid hseq
        clear hseq
        go_wp2_with (fail)
        go_roundg (n - (k + 1))
        case measure => omega
        case rel => exact ⟨k + 1, by omega, by go_num, by rw [HSEQ.out]; exact TWO4.out, BEL4.out, hz4⟩
    · obtain rfl : k = n := by omega
      clear hlt
      obtain ⟨aa, ac, ha⟩ := own_form TWO.out.ra
      rw [List.length_map, List.length_range] at ha
      subst ha
      have hk0 : k ≤ 31 := by omega
      go_upto_region 15 with (fail)
      go_loopg [7, 10] k (fun q b i wr2 => ∃ (j : Nat), j + q = k ∧ i = .int .i64 (j : Int) ∧ Two w1.heap.size wr2 (.slice aa k ac) b ((List.range k).map recN) ((seqB k s k ++ revN k j).map recN) ∧ Below w.heap.size w wr2 ∧ w1.heap.size ≤ wr2.heap.size)
      case atStart => exact ⟨0, by omega, rfl, by simpa [revN] using TWO.out, BEL.out, hw1⟩
      case round =>
        obtain ⟨j, hj, rfl, two, bel, hw2⟩ := hrel
        have BEL2 := Lib.hid bel
        obtain ⟨LB, hLB⟩ : ∃ LB, LB = (seqB k s k ++ revN k j).map recN := ⟨_, rfl⟩
        rw [← hLB] at two
        have hLl : LB.length ≤ 60 := by
          have := seqB_len k s k
          rw [hLB]
          simp only [List.length_map, List.length_append, revN, List.length_range]
          omega
        have HLB0 := Lib.hid hLB
        have TWO2 := Lib.hid two
        clear two bel hLB
        by_cases hlt : j < k
        · have i4 : (j : Int) < (k : Int) := by omega
          obtain ⟨t, ht⟩ : ∃ t, t = k - 1 - j := ⟨_, rfl⟩
          have htk : t < k := by omega
          have hti : (k : Int) - 1 - (j : Int) = (t : Int) := by omega
          have hts : k - 1 - j = t := ht.symm
          clear ht
          have sra : Sr wr wr.heap.size (.slice aa k ac) ((List.range k).map recN) := Sv.own TWO2.out.ra
          obtain ⟨b, off, rfl, hb, c0, c1, c2, c3, c4⟩ := sra.at_ t (by simpa using htk)
          simp only [List.getElem_map, List.getElem_range] at c0 c1 c2 c3 c4
          have i5 : (t : Int) < (k : Int) := by omega
          have hrv := revN_succ k j
          rw [hts] at hrv
          have HRV := Lib.hid hrv
          have two3 : Two w1.heap.size (wr.alloc (.cells (rrs [recN t]).toArray 26)) _ _ _ _ := TWO2.out.swap.fr ((Fr.refl _ _).alloc _)
          have hbl3 : Bl (wr.alloc (.cells (rrs [recN t]).toArray 26)) wr.heap.size 26 (rrs [recN t]) := Bl.new _ _ _
          have bel3 := BEL2.out.alloc BEL2.out.size (.cells (rrs [recN t]).toArray 26)
          have TWO3 := Lib.hid two3
          have HBL3 := Lib.hid hbl3
          have BEL3 := Lib.hid bel3
          have hsz3 : w1.heap.size ≤ (wr.alloc (.cells (rrs [recN t]).toArray 26)).heap.size := by simp; omega
          have HSZ3 := Lib.hid hsz3
          clear two3 hbl3 bel3 hsz3 hrv hts sra
          go_wp2_with (at_builtin; refine wpList_appS (.tmp 67) (.tmp 75) 39 rfl rfl w1.heap.size 26 _ 5 56 und39 info26 rfl (by decide) _ _ _ rfl TWO3.out.ra _ 1 (rrs [recN t]) rfl HBL3.out rfl (rrs_one _) ?a5 ?a6 ?a7 ?_)
          case a5 => unfold maxLen; omega
          case a6 => omega
          case a7 => exact HSZ3.out
          intro v5 w5 own5 g5 hn5
          have hz5 := Nat.le_trans HSZ3.out g5.size
          have TWO5 := Lib.hid (TWO3.out.push (r := recN t) own5 (by simp) g5 hn5 (by simp)).swap
          have BEL5 := Lib.hid (BEL3.out.grown g5 BEL3.out.size (fun j hj => Nat.le_trans hz1 (own_ge TWO3.out.ra hj (Nat.le_refl _))))
          clear own5 g5 hn5 TWO3 HBL3 BEL3 HSZ3
          go_wp2_with (fail)
          go_roundg (k - (j + 1))
          case measure => omega
          case rel =>
            have e : (seqB k s k ++ revN k (j + 1)).map recN = LB ++ [recN t] := by
              rw [HRV.out, ← List.append_assoc, List.map_append (l₂ := [t]), HLB0.out]
              rfl
            exact ⟨j + 1, by omega, by go_num, by rw [e]; exact TWO5.out, BEL5.out, hz5⟩
        · obtain rfl : j = k := by omega
          obtain ⟨ba, bc, hb⟩ := own_form TWO2.out.rb
          subst hb
          have sra : Sr wr wr.heap.size (.slice aa j ac) ((List.range j).map recN) := Sv.own TWO2.out.ra
          have srb : Sr wr wr.heap.size (.slice ba LB.length bc) LB := Sv.own TWO2.out.rb
          have e1 := order_a hn30
          have e2 := order_b hn30 s
          rw [← HLB0.out] at e2
          have hlA : ((List.range j).map recN).length ≤ 999 := by simp; omega
          have hlL : ((List.range j).map pairN).length = j := by simp
          generalize (List.range j).map recN = LA at *
          generalize (List.range j).map pairN = L at *
          have HOA := Lib.hid fun (W : World) (h : Sr W W.heap.size (.slice aa j ac) LA) => ofs_c W _ LA h hlA
          have HOB := Lib.hid fun (W : World) (h : Sr W W.heap.size (.slice ba LB.length bc) LB) => ofs_c W _ LB h (by omega)
          rw [e1] at HOA
          rw [e2.1] at HOB
          have HSL := Lib.hid e2.2
          have HA := Lib.hid sra
          have HB2 := Lib.hid srb
          have HLL := Lib.hid hlL
          clear sra srb e1 e2 hlA hlL
          go_wp2_with (fail)
          refine (HOA.out wr HA.out).mono ?_
          rintro e w3 ⟨⟨u3, rfl, sp3⟩, b3⟩
          have HA3 := Lib.hid (Sv.below HA.out b3.size b3 (Nat.le_refl _))
          have HB3 := Lib.hid (Sv.below HB2.out b3.size b3 (Nat.le_refl _))
          have B3 := Lib.hid (BEL2.out.trans (b3.mono BEL2.out.size))
          have SP3 := Lib.hid sp3
          clear sp3 b3
          go_wp2_with (fail)
          refine (HOB.out w3 HB3.out).mono ?_
          rintro e w4 ⟨⟨u4, rfl, sp4⟩, b4⟩
          have HA4 := Lib.hid (Sv.below HA3.out b4.size b4 (Nat.le_refl _))
          have HB4 := Lib.hid (Sv.below HB3.out b4.size b4 (Nat.le_refl _))
          have B4 := Lib.hid (B3.out.trans (b4.mono B3.out.size))
          have HS := same_c w4 _ _ L L (Sv.below SP3.out b4.size b4 (Nat.le_refl _)) sp4
          rw [show decide (L = L) = true from decide_eq_true rfl] at HS
          have HSM := Lib.hid HS
          clear sp4 b4 HS
          go_wp2_with (fail)
          refine HSM.out.mono ?_
          rintro e w5 ⟨rfl, b5⟩
          have HA5 := Lib.hid (Sv.below HA4.out b5.size b5 (Nat.le_refl _))
          have HB5 := Lib.hid (Sv.below HB4.out b5.size b5 (Nat.le_refl _))
          have B5 := Lib.hid (B4.out.trans (b5.mono B4.out.size))
          clear b5
          go_wp2_with (fail)
          refine (HOA.out w5 HA5.out).mono ?_
          rintro e w6 ⟨⟨u6, rfl, sp6⟩, b6⟩
          have HB6 := Lib.hid (Sv.below HB5.out b6.size b6 (Nat.le_refl _))
          have B6 := Lib.hid (B5.out.trans (b6.mono B5.out.size))
          obtain ⟨xa, xc, rfl, _⟩ := Sv.form sp6
          rw [HLL.out]
          clear sp6 b6
          go_wp2_with (fail)
          refine (HOB.out w6 HB6.out).mono ?_
          rintro e w7 ⟨⟨u7, rfl, sp7⟩, b7⟩
          have B7 := Lib.hid (B6.out.trans (b7.mono B6.out.size))
          have HSO := sorted_c w7 _ L sp7
          rw [HSL.out] at HSO
          have HSO2 := Lib.hid HSO
          clear sp7 b7 HSO
          go_wp2_with (fail)
          refine HSO2.out.mono ?_
          rintro e w8 ⟨rfl, b8⟩
          have B8 := Lib.hid (B7.out.trans (b8.mono B7.out.size))
          clear b8
          go_wp2_with (fail)
          go_ret
          exact ⟨rfl, B8.out⟩
end Go.Proofs.Ytjokghnlmaaejaa
