import Derived.Test.YtaogloegiffioaaGreatDoorV3
set_option linter.all false
namespace Go.Proofs.YtaogloegiffioaaGreatDoor.V
open Go.RowKit
theorem clone_c (w : World) (B : Nat) (ad : Addr) (n cap : Nat) (l : List UInt8) (h : Sl w B (.slice (some ad) n cap) l) (hl : l.length ≤ 1000) (hB : B ≤ w.heap.size) :
    Calls Tryz.prog 186 #[.slice (some ad) n cap] w fun e w' => (∃ g c, e = .returned (.slice (some ⟨g, 0, none⟩) l.length c) ∧ w'.ownsRow w.heap.size 5 1 (.slice (some ⟨g, 0, none⟩) l.length c) l.length (bv l)) ∧ Below w.heap.size w w' := by
  have hne := Lib.run_eql_slice_nil (P := Tryz.prog)
  have own0 : (w.alloc (.cells #[] 5)).ownsRow w.heap.size 5 1 (.slice (some ⟨w.heap.size, 0, none⟩) 0 0) 0 [] :=
    ⟨rfl, .inr ⟨_, 0, #[], rfl, Nat.le_refl _, heap_alloc_new w _, Nat.le_refl _, by simp [maxLen], rfl, rfl⟩⟩
  have hsv : Sv (w.alloc (.cells #[] 5)) B 1 (.slice (some ad) n cap) l.length (bv l) := h.keep (Nat.le_refl _) fun b o hb => World.cell?_alloc_lt w _ ⟨b, o, none⟩ (by simp; omega)
  go_enter Tryz.func186, Tryz.ntmps186
  have HSV := Lib.hid hsv
  clear hsv
  go_wp2_with (at_builtin; refine wpList_app (.tmp 5) (.tmp 6) 54 rfl rfl w.heap.size 5 (.int .u8 0) 1 Tryz.underlying54 info5 rfl _ 0 [] rfl own0 _ l.length B (bv l) rfl HSV.out (bv_one _) ?a5 ?a6 ?a7 ?_)
  case a5 => unfold maxLen; omega
  case a6 => omega
  case a7 => simp
  intro v3 w3 own3 g3 hn3
  have hb : Below w.heap.size w w3 := ((Below.refl _ _).alloc (Nat.le_refl _) _).grown g3 (by simp) (fun k hk => by simp [Value.ownBlock] at hk; omega)
  have own4 := own3
  obtain ⟨_, ⟨rfl, _⟩ | ⟨g, c, cur, rfl, _⟩⟩ := own4
  · exact absurd (hn3 rfl) (by simp)
  have O := Lib.hid own3
  have HB := Lib.hid hb
  clear own3 hb g3 hn3 hne own0
  go_wp2_with (fail)
  go_ret
  exact ⟨⟨g, c, by simp, by have := O.out; simpa using this⟩, HB.out⟩
theorem sec_now {w : World} {p b : Nat} {D : DM} (h : DevAt w p b D) (i : Nat) (hi : i < D.secs.length) (B : Nat) (hB : b < B) : Sl w B (.slice (some ⟨b, i * 129, none⟩) 64 64) (D.secs[i]).now := by
  have hok : (D.secs[i]).now.length = 64 := (h.2.2.1 _ (List.getElem_mem hi)).1
  have hs := secCells_seg D.secs h.2.2.1 i hi 0 64 (by omega)
  have hl := secCells_len D.secs h.2.2.1
  have := h.2.1.sv (w := w) (B := B) 1 (i * 129) 64 64 hB (by omega) (Nat.le_refl _) (by simp [maxLen])
  rw [Nat.add_zero] at hs
  rw [show 64 * 1 = 64 from rfl, hs] at this
  have e : ((D.secs[i]).cells.drop 0).take 64 = bv (D.secs[i]).now := by
    rw [List.drop_zero, Sec.cells, List.append_assoc, List.take_append_of_le_length (by rw [bv_len]; omega), List.take_of_length_le (by rw [bv_len]; omega)]
  rw [e] at this
  unfold Sl
  rw [hok]
  exact this
theorem read_c (w : World) (p b : Nat) (D : DM) (h : DevAt w p b D) (i : Nat) (hi : i < D.secs.length) :
    Calls Tryz.prog 338 #[.pointer (some ⟨p, 0, none⟩), .int .i64 (i : Int)] w fun e w' => (∃ g c, e = .returned (.tuple #[.slice (some ⟨g, 0, none⟩) 64 c, .int .i64 0]) ∧ w'.ownsRow w.heap.size 5 1 (.slice (some ⟨g, 0, none⟩) 64 c) 64 (bv (D.secs[i]).now)) ∧ Below w.heap.size w w' := by
  obtain ⟨c0, c1, c2, c3, c4⟩ := h.cells
  have hlen := h.2.2.2.2.1
  have hok : (D.secs[i]).now.length = 64 := (h.2.2.1 _ (List.getElem_mem hi)).1
  have hat := at_in w p b D h i (by omega) (by omega)
  have hs := sec_now h i hi w.heap.size h.2.1.lt
  have hcl := clone_c w w.heap.size ⟨b, i * 129, none⟩ 64 64 _ hs (by omega) (Nat.le_refl _)
  have HAT := Lib.hid hat
  have HCL := Lib.hid hcl
  have HO := Lib.hid hok
  clear h c1 c2 c3 c4 hs hcl hat hok
  go_enter Tryz.func338, Tryz.ntmps338
  go_wp2_with (go_at_call 248; refine (HAT.out).mono ?_; rintro e w' ⟨rfl, rfl⟩)
  refine HCL.out.mono ?_
  rintro e w' ⟨⟨g, c, rfl, hg⟩, hb⟩
  rw [HO.out] at hg ⊢
  have HG := Lib.hid hg
  have HB := Lib.hid hb
  clear hg hb
  go_wp2_with (fail)
  go_ret2
  exact ⟨⟨g, c, rfl, HG.out⟩, HB.out⟩
theorem read_out (w : World) (p b : Nat) (D : DM) (h : DevAt w p b D) (i : Int) (h1 : i < 0 ∨ (D.secs.length : Int) ≤ i) :
    Calls Tryz.prog 338 #[.pointer (some ⟨p, 0, none⟩), .int .i64 i] w fun e w' => e = .returned (.tuple #[.slice none 0 0, .int .i64 3]) ∧ w = w' := by
  have HAT := Lib.hid (at_out w p b D h i h1)
  clear h h1
  go_enter Tryz.func338, Tryz.ntmps338
  go_wp2_with (go_at_call 248; refine (HAT.out).mono ?_; rintro e w' ⟨rfl, rfl⟩)
  go_ret2
  exact ⟨rfl, rfl⟩
theorem read_nil (w : World) (i : Int) :
    Calls Tryz.prog 338 #[.pointer none, .int .i64 i] w fun e w' => e = .returned (.tuple #[.slice none 0 0, .int .i64 7]) ∧ w = w' := by
  go_enter Tryz.func338, Tryz.ntmps338
  go_wp2_with (go_at_call 248; refine (at_nil w i).mono ?_; rintro e w' ⟨rfl, rfl⟩)
  go_ret2
  exact ⟨rfl, rfl⟩
def Sec.put (s : Sec) (l : List UInt8) : Sec := { s with now := l ++ s.now.drop l.length, loose := true }
def DM.write (D : DM) (i : Nat) (l : List UInt8) : DM := { D.burned with secs := D.secs.modify i (·.put l) }
theorem write_dead (w : World) (p b : Nat) (D : DM) (h : DevAt w p b D) (hd : D.isDead = true) (i : Int) (v : Value) :
    Calls Tryz.prog 179 #[.pointer (some ⟨p, 0, none⟩), .int .i64 i, v] w fun e w' => e = .returned (.int .i64 7) ∧ w = w' := by
  have HD := Lib.hid (dead_c w p b D h)
  rw [hd] at HD
  clear h hd
  go_enter Tryz.func179, Tryz.ntmps179
  go_wp2_with (go_at_call 173; refine (HD.out).mono ?_; rintro e w' ⟨rfl, rfl⟩)
  go_ret
  exact ⟨rfl, rfl⟩
theorem write_nil (w : World) (i : Int) (v : Value) :
    Calls Tryz.prog 179 #[.pointer none, .int .i64 i, v] w fun e w' => e = .returned (.int .i64 7) ∧ w = w' := by
  go_enter Tryz.func179, Tryz.ntmps179
  go_wp2_with (go_at_call 173; refine (dead_nil w).mono ?_; rintro e w' ⟨rfl, rfl⟩)
  go_ret
  exact ⟨rfl, rfl⟩
theorem write_out (w : World) (p b : Nat) (D : DM) (h : DevAt w p b D) (hd : D.isDead = false) (i : Int) (h1 : i < 0 ∨ (D.secs.length : Int) ≤ i) (v : Value) :
    Calls Tryz.prog 179 #[.pointer (some ⟨p, 0, none⟩), .int .i64 i, v] w fun e w' => e = .returned (.int .i64 3) ∧ w = w' := by
  have HD := Lib.hid (dead_c w p b D h)
  rw [hd] at HD
  have HAT := Lib.hid (at_out w p b D h i h1)
  clear h hd h1
  go_enter Tryz.func179, Tryz.ntmps179
  go_wp2_with (first | (go_at_call 173; refine (HD.out).mono ?_; rintro e w' ⟨rfl, rfl⟩) | (go_at_call 248; refine (HAT.out).mono ?_; rintro e w' ⟨rfl, rfl⟩))
  go_ret
  exact ⟨rfl, rfl⟩
theorem write_long (w : World) (p b : Nat) (D : DM) (h : DevAt w p b D) (hd : D.isDead = false) (i : Int) (h0 : 0 ≤ i) (h1 : i < (D.secs.length : Int)) (a : Option Addr) (n cap : Nat) (hn : 64 < n) :
    Calls Tryz.prog 179 #[.pointer (some ⟨p, 0, none⟩), .int .i64 i, .slice a n cap] w fun e w' => e = .returned (.int .i64 1) ∧ w = w' := by
  have HD := Lib.hid (dead_c w p b D h)
  rw [hd] at HD
  have HAT := Lib.hid (at_in w p b D h i h0 h1)
  clear h hd h0 h1
  go_enter Tryz.func179, Tryz.ntmps179
  go_wp2_with (first | (go_at_call 173; refine (HD.out).mono ?_; rintro e w' ⟨rfl, rfl⟩) | (go_at_call 248; refine (HAT.out).mono ?_; rintro e w' ⟨rfl, rfl⟩))
  go_ret
  exact ⟨rfl, rfl⟩
end Go.Proofs.YtaogloegiffioaaGreatDoor.V
