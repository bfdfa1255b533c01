import Derived.Test.YtapanemkpcnkaaaB1
namespace Go.Proofs.Ytapanemkpcnkaaa
open Go.RowKit
theorem info5 : (Try.prog.info? 5).map (fun i => (i.zero, i.size, i.bytes)) = some (some (.int .u8 0), 1, 1) := by kernel_rfl

theorem crc_append (a b : List UInt8) (x : BitVec 32) : crc x (a ++ b) = crc (crc x a) b := by
  simp only [crc, List.foldl_append, BitVec.not_not]
theorem own_ge {w : World} {base : Nat} {e : TypeId} {size : Nat} {v : Value} {n : Nat} {xs : List Value} (h : w.ownsRow base e size v n xs) {k B : Nat} (hk : v.ownBlock = some k) (hB : B ≤ base) : B ≤ k := by
  obtain ⟨_, ⟨rfl, _⟩ | ⟨g, cap, cur, rfl, hg, _⟩⟩ := h
  · cases hk
  · cases hk; exact Nat.le_trans hB hg
set_option maxHeartbeats 400000 in
theorem crcAll_walk (w : World) {va vb : Value} {la lb : List UInt8} (ha : Sl w w.heap.size va la) (hb : Sl w w.heap.size vb lb) :
    Calls Try.prog 4 #[va, vb] w fun e w' => e = .returned (.bool true) ∧ Below w.heap.size w w' := by
  obtain ⟨i0, hi, hz0, hz1, hz2⟩ := info_parts info5
  go_enter Try.func4, Try.ntmps4
  go_wp2_with (fail)
  refine (begun_c w).mono ?_
  rintro e w1 ⟨rfl, hb1⟩
  have ha1 := ha.below (B' := w.heap.size) (by omega) hb1 (by omega)
  have hbb1 := hb.below (B' := w.heap.size) (by omega) hb1 (by omega)
  clear ha hb
  go_wp2_with (fail)
  refine (short_c va la 300 w1 _ ha1 (by decide)).mono ?_
  rintro e w' ⟨⟨v1, rfl, h1⟩, rfl⟩
  go_wp2_with (fail)
  refine (short_c vb lb 300 w1 _ hbb1 (by decide)).mono ?_
  rintro e w' ⟨⟨v2, rfl, h2⟩, rfl⟩
  have HL := Lib.hid (And.intro (List.length_take_le 300 la) (List.length_take_le 300 lb))
  generalize la.take 300 = la' at *
  generalize lb.take 300 = lb' at *
  clear ha1 hbb1
  have l1 : la'.length ≤ 300 := HL.1
  have l2 : lb'.length ≤ 300 := HL.2
  clear HL
  obtain ⟨oa, ca, rfl, na⟩ := h1.news
  have hw1 := hb1.size
  go_wp2_with (at_builtin; refine wpList_app (.const (.slice none 0 0)) (.tmp 14) 24 rfl rfl w1.heap.size 5 i0 (.int .u8 0) 1 Try.underlying24 hi hz0 hz1 hz2 rfl (.slice none 0 0) 0 [] rfl ?a1 oa la'.length ca (bv la') rfl ?a2 ?a3 ?a4 ?a5 ?a6 ?a7 ?_)
  case a1 => exact ⟨rfl, .inl ⟨rfl, rfl⟩⟩
  case a2 => exact bv_length _
  case a3 => exact na
  case a4 => exact bv_one _
  case a5 => unfold maxLen; omega
  case a6 => omega
  case a7 => omega
  intro v3 w3 own3 g3
  have h2' := h2.grown g3 (by omega) (by simp [Value.ownBlock]) (Nat.le_refl _)
  have h1' := h1.grown g3 (by omega) (by simp [Value.ownBlock]) (Nat.le_refl _)
  obtain ⟨ob, cb, rfl, nb⟩ := h2'.news
  have hw3 := g3.size
  clear h1 h2
  go_wp2_with (at_builtin; refine wpList_app (.tmp 15) (.tmp 16) 24 rfl rfl w1.heap.size 5 i0 (.int .u8 0) 1 Try.underlying24 hi hz0 hz1 hz2 rfl v3 la'.length (bv la') rfl own3 ob lb'.length cb (bv lb') rfl ?b2 ?b3 ?b4 ?b5 ?b6 ?b7 ?_)
  case b2 => exact bv_length _
  case b3 => exact nb
  case b4 => exact bv_one _
  case b5 => unfold maxLen; omega
  case b6 => omega
  case b7 => omega
  intro v4 w4 own4 g4
  rw [bv_append] at own4
  have h4 := Sl.own own4 (by rw [List.length_append]; omega)
  have h1'' := h1'.grown g4 (by omega) (fun k hk => own_ge own3 hk (by omega)) (Nat.le_refl _)
  have h2'' := h2'.grown g4 (by omega) (fun k hk => own_ge own3 hk (by omega)) (Nat.le_refl _)
  have hbb : Below w.heap.size w w4 := (hb1.grown g3 (by omega) (by simp [Value.ownBlock])).grown g4 (by omega) (fun k hk => own_ge own3 hk (by omega))
  have HB := Lib.hid hbb
  clear hbb own3 own4 h1' h2' g3 g4 nb na hw3 hw1 hb1
  go_wp2_with (fail)
  refine (sum_c _ _ _ _ h4).mono ?_
  rintro e w' ⟨rfl, rfl⟩
  go_wp2_with (fail)
  refine (ref_c _ _ _ _ h4).mono ?_
  rintro e w' ⟨rfl, rfl⟩
  go_wp2_with (fail)
  refine (sum_c _ _ _ _ h1'').mono ?_
  rintro e w' ⟨rfl, rfl⟩
  go_wp2_with (fail)
  refine (more_c _ _ _ _ _ h2'').mono ?_
  rintro e w' ⟨rfl, rfl⟩
  go_wp2_with (fail)
  refine (sum_c _ _ _ _ h4).mono ?_
  rintro e w' ⟨rfl, rfl⟩
  rw [← crc_append]
  go_wp2_with (fail)
  go_ret
  exact ⟨rfl, HB.out⟩
end Go.Proofs.Ytapanemkpcnkaaa
