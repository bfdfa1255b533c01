import Derived.Test.YtbkjiinnojnkhaaX8
namespace Go.Proofs.Ytbkjiinnojnkhaa
open Go.RowKit
theorem results_cell_tmp {fn : Func} {t ty u : Nat} (h : fn.results = #[.cell t ty, .tmp u]) (tmps : Array Value) (P : Program) (w : World) (ad : Addr) (hp : tmps.getD t undef = .pointer (some ad)) (v : Value) (hl : (loadVar ty ad).run P w = .ok v w) :
    (results fn tmps).run P w = .ok (.tuple #[v, tmps.getD u undef]) w := by
  simp only [Array.getD_eq_getD_getElem?] at hp
  simp [results, h, hp, asAddr, hl]
theorem load30 {w : World} {b : Nat} {x y : Value} (h : Bl w b 30 [x, y]) : (loadVar 30 ⟨b, 0, none⟩).run Try.prog w = .ok (.agg #[x, y]) w :=
  run_load_seg (m := 2) h Try.underlying30 rfl (by kernel_rfl) (by simp)
def TakePost (w : World) (p b cap : Nat) (ex : List Value) (at_ : Int) (free : List Bool) (n : Int) (e : Ending) (w' : World) : Prop :=
  match taken at_ free n with
  | some s => e = .returned (.tuple #[.agg #[.int .i64 s.1, .int .i64 n], .bool true]) ∧ RoomAt w' p b cap ex at_ (setTo at_ free s.1 n false) ∧ Fr [b] w w'
  | none => e = .returned (.tuple #[.agg #[.int .i64 0, .int .i64 0], .bool false]) ∧ RoomAt w' p b cap ex at_ free ∧ Fr [b] w w'
theorem find_take {α : Type} (f : α → Bool) : ∀ (l : List α) (k : Nat) (hk : k < l.length), (∀ x ∈ l.take k, f x = false) → f l[k] = true → l.find? f = some l[k]
  | [], _, hk, _, _ => by simp at hk
  | a :: l, 0, _, _, h => by
    simp only [List.getElem_cons_zero] at h ⊢
    simp [h]
  | a :: l, k + 1, hk, h1, h => by
    have := find_take f l k (by simpa using hk) (fun x hx => h1 x (by simp [hx])) (by simpa using h)
    have h2 := h1 a (by simp)
    simp only [List.find?_cons, h2]
    simpa using this
set_option maxHeartbeats 2000000 in
theorem take_c (w : World) (p b cap : Nat) (ex : List Value) (at_ : Int) (free : List Bool) (h : RoomAt w p b cap ex at_ free) (n : Int) (hn : -9223372036854775808 ≤ n ∧ n ≤ 9223372036854775807) :
    Calls Try.prog 11 #[.pointer (some ⟨p, 0, none⟩), .int .i64 n] w fun e w' => TakePost w p b cap ex at_ free n e w' := by
  have hf0 : Fr [] w (w.alloc (.cells #[.int .i64 0, .int .i64 0] 30)) := (Fr.refl _ _).alloc _
  have h1 := h.fr hf0 (by simp) (by simp)
  have hr : Bl (w.alloc (.cells #[.int .i64 0, .int .i64 0] 30)) w.heap.size 30 [.int .i64 0, .int .i64 0] := Bl.new _ _ _
  have hlen := h.len
  have hlo := h.lo
  have hhi := h.hi
  have hbl := h.row.lt
  have hpl := h.head.lt
  have hrows := spans_rows at_ free
  have hT : taken at_ free n = (spans at_ free).find? fun s => decide (1 ≤ n) && decide (n ≤ s.2) := rfl
  have hSl : (spans at_ free).length ≤ 2048 := Nat.le_trans (spansK_le at_ free _) hlen
  clear h
  have HF0 := Lib.hid hf0
  have HT := Lib.hid hT
  have HROWS := Lib.hid hrows
  clear hf0 hT hrows
  go_enter Try.func11, Try.ntmps11
  go_upto_region 1 with (fail)
  generalize hw1 : w.alloc (.cells #[.int .i64 0, .int .i64 0] 30) = w1 at *
  have hz1 : w1.heap.size = w.heap.size + 1 := by rw [← hw1]; simp
  clear hw1
  have H1 := Lib.hid h1
  have HRV := Lib.hid hr
  clear h1 hr
  go_wp2_with (fail)
  refine (spans_c w1 p _ at_ free H1.out.r).mono ?_
  rintro e w2 ⟨⟨v', rfl, own⟩, bel⟩
  have H2 := Lib.hid (H1.out.fr (Fr.of_below bel) (by simp) (by simp))
  have HRV2 := Lib.hid (HRV.out.below bel HRV.out.lt)
  have FR2 := Lib.hid (HF0.out.trans (Fr.of_below bel))
  have hz2 := bel.size
  clear bel
  generalize spans at_ free = S at *
  obtain ⟨a, cap3, rfl⟩ := own_form own
  have OWN := Lib.hid own
  clear own
  go_wp2_with (fail)
  go_loopg [7, 11] S.length (fun q _ i wr => ∃ k : Nat, k + q = S.length ∧ i = .int .i64 (k : Int) ∧ (∀ s ∈ S.take k, (decide (1 ≤ n) && decide (n ≤ s.2)) = false) ∧ Fr [] w2 wr)
  case atStart => exact ⟨0, by omega, rfl, by simp, Fr.refl _ _⟩
  case round =>
    obtain ⟨k, hk, rfl, hnot, fr⟩ := hrel
    by_cases hlt : k < S.length
    · have own := ownsRow_fr OWN.out fr (by simp)
      have own' := own
      obtain ⟨_, ⟨_, h0⟩ | ⟨g, cap4, cur, e1, hg, _⟩⟩ := own'
      · omega
      injection e1 with e1 e2 e3
      subst e1 e3
      obtain ⟨c1, c2⟩ := row_at own rfl k hlt
      have i4 : (k : Int) < (S.length : Int) := by omega
      obtain ⟨i, m, hs, hm1, hm2, hm3⟩ := HROWS.out _ (List.getElem_mem hlt)
      have hx : S[k].1 = at_ + (i : Int) := by rw [hs]
      have hy : S[k].2 = (m : Int) := by rw [hs]
      have hfind : (decide (1 ≤ n) && decide (n ≤ S[k].2)) = true → taken at_ free n = some S[k] := fun hq => by rw [HT.out]; exact find_take _ _ k hlt hnot hq
      have hnext : (decide (1 ≤ n) && decide (n ≤ S[k].2)) = false → ∀ s ∈ S.take (k + 1), (decide (1 ≤ n) && decide (n ≤ s.2)) = false := fun hq s hs => by
        rw [List.take_succ_eq_append_getElem hlt, List.mem_append, List.mem_singleton] at hs
        rcases hs with hs | rfl
        · exact hnot s hs
        · exact hq
      have HRR := Lib.hid (H2.out.fr fr (by simp) (by simp))
      have HV := Lib.hid (HRV2.out.fr fr (by simp))
      have FR := Lib.hid fr
      have hwz := fr.size
      have HM3 := Lib.hid hm3
      rw [hx] at c1
      rw [hy] at c2 hfind hnext
      have HX := Lib.hid hx
      clear hs hx hy own fr hm3 hnot
      by_cases k1 : 1 ≤ n
      · have d1 : decide (1 ≤ n) = true := by simpa using k1
        by_cases k2 : n ≤ (m : Int)
        · have d2 : decide (n ≤ (m : Int)) = true := by simpa using k2
          have HFIND := Lib.hid (hfind (by rw [d1, d2]; rfl))
          have hall : isAll at_ free (at_ + (i : Int)) n true = true := by
            obtain ⟨n', rfl⟩ := Int.eq_ofNat_of_zero_le (by omega : 0 ≤ n)
            exact win_all at_ free i n' (by omega) (fun t ht => HM3.out t (by omega))
          have HALL := Lib.hid hall
          have r0 : wr.cell? ⟨w.heap.size, 0, none⟩ = some (.int .i64 0) := HV.out.cell 0
          have r1 : wr.cell? ⟨w.heap.size, 1, none⟩ = some (.int .i64 0) := HV.out.cell 1
          have q0 := HV.out.free 0
          have q1 := HV.out.free 1
          clear hfind hnext hall
          go_wp2_with (fail)
          have hbx : Bl (wr.alloc (.cells #[.int .i64 (at_ + (i : Int)), .int .i64 n] 30)) wr.heap.size 30 [.int .i64 (at_ + (i : Int)), .int .i64 n] := Bl.new _ _ _
          have hrx := HRR.out.fr ((Fr.refl [] wr).alloc (.cells #[.int .i64 (at_ + (i : Int)), .int .i64 n] 30)) (by simp) (by simp)
          have hvx := HV.out.alloc (.cells #[.int .i64 (at_ + (i : Int)), .int .i64 n] 30)
          have hfx := (FR2.out.trans FR.out).alloc (.cells #[.int .i64 (at_ + (i : Int)), .int .i64 n] 30)
          clear r0 r1 q0 q1 c1 c2
          generalize wr.alloc (.cells #[.int .i64 (at_ + (i : Int)), .int .i64 n] 30) = wx at *
          have c1 : wx.cell? ⟨wr.heap.size, 0, none⟩ = some (.int .i64 (at_ + (i : Int))) := hbx.cell 0
          have c2 : wx.cell? ⟨wr.heap.size, 1, none⟩ = some (.int .i64 n) := hbx.cell 1
          have HU := Lib.hid (use_c wx.drew p b cap ex at_ free ⟨hrx.head, hrx.row, hrx.lo, hrx.hi, hrx.len, hrx.le, hrx.cap⟩ (at_ + (i : Int)) n (by omega) hn)
          have HBX := Lib.hid hbx
          have HVX := Lib.hid hvx
          have HFX := Lib.hid hfx
          rw [HALL.out] at HU
          clear hbx hvx hfx hrx
          have hbw : b < wr.heap.size := HRR.out.row.lt
          go_region_with (go_at_call 12; refine HU.out.mono ?_; rintro e w4 ⟨rfl, hr4, f4⟩; have c4 : w4.cell? ⟨wr.heap.size, 0, none⟩ = some (.int .i64 (at_ + (i : Int))) := (HBX.out.drew.fr f4 (by simp; omega)).cell 0; have c5 : w4.cell? ⟨wr.heap.size, 1, none⟩ = some (.int .i64 n) := (HBX.out.drew.fr f4 (by simp; omega)).cell 1; have hv4 := HVX.out.drew.fr f4 (by simp; omega); have r0 : w4.cell? ⟨w.heap.size, 0, none⟩ = some (.int .i64 0) := hv4.cell 0; have r1 : w4.cell? ⟨w.heap.size, 1, none⟩ = some (.int .i64 0) := hv4.cell 1; have q0 := hv4.free 0; have q1 := hv4.free 1; have HR4 := Lib.hid hr4; have F4 := Lib.hid f4; have HV4 := Lib.hid hv4; clear hr4 f4 hv4)
          all_goals
            have hfr : Fr [w.heap.size] w4 ((w4.setCell ⟨w.heap.size, 0, none⟩ (.int .i64 (at_ + (i : Int)))).setCell ⟨w.heap.size, 1, none⟩ (.int .i64 n)) := ((Fr.refl _ _).setCell (by simp) _).setCell (by simp) _
            have hv2 : Bl ((w4.setCell ⟨w.heap.size, 0, none⟩ (.int .i64 (at_ + (i : Int)))).setCell ⟨w.heap.size, 1, none⟩ (.int .i64 n)) w.heap.size 30 [.int .i64 (at_ + (i : Int)), .int .i64 n] := (HV4.out.set 0 _).set 1 _
            have HFR := Lib.hid hfr
            have HV2 := Lib.hid hv2
            clear hfr hv2 c4 c5 r0 r1 q0 q1
            go_wp2_with (fail)
            (try simp only [Exit.inBlock, Exit.then])
            refine bodyPost_ret (results_cell_tmp rfl _ _ _ ⟨w.heap.size, 0, none⟩ rfl _ (load30 HV2.out)) rfl ?_
            unfold TakePost
            rw [HFIND.out]
            refine ⟨by rw [HX.out]; rfl, by rw [HX.out]; exact HR4.out.fr HFR.out (by simp; omega) (by simp; omega), ?_⟩
            have f1 := (HFX.out.mono (T := [b]) (by simp)).drew.trans F4.out
            have hfr := HFR.out
            refine ⟨hfr.os.trans f1.os, hfr.tape.trans f1.tape, hfr.output.trans f1.output, Nat.le_trans f1.size hfr.size, fun k hk hs => ?_⟩
            exact (hfr.block k (by have := f1.size; omega) (by simp; omega)).trans (f1.block k hk hs)
        · have d2 : decide (n ≤ (m : Int)) = false := by simpa using k2
          have HN := Lib.hid (hnext (by rw [d1, d2]; rfl))
          clear hfind hnext
          go_wp2_with (fail)
          go_roundg (S.length - (k + 1))
          case measure => omega
          case rel => exact ⟨k + 1, by omega, by go_num, HN.out, FR.out.alloc _⟩
      · have d1 : decide (1 ≤ n) = false := by simpa using k1
        have HN := Lib.hid (hnext (by rw [d1]; rfl))
        clear hfind hnext
        go_wp2_with (fail)
        go_roundg (S.length - (k + 1))
        case measure => omega
        case rel => exact ⟨k + 1, by omega, by go_num, HN.out, FR.out.alloc _⟩
    · have e : k = S.length := by omega
      subst e
      rw [List.take_length] at hnot
      have hf : taken at_ free n = none := by
        rw [HT.out, List.find?_eq_none]
        intro s hs
        simp [hnot s hs]
      have HRR := Lib.hid (H2.out.fr fr (by simp) (by simp))
      have HV := Lib.hid (HRV2.out.fr fr (by simp))
      have FR := Lib.hid fr
      have HFN := Lib.hid hf
      clear fr hnot hf
      have r0 : wr.cell? ⟨w.heap.size, 0, none⟩ = some (.int .i64 0) := HV.out.cell 0
      have r1 : wr.cell? ⟨w.heap.size, 1, none⟩ = some (.int .i64 0) := HV.out.cell 1
      have q0 := HV.out.free 0
      have q1 := HV.out.free 1
      go_wp2_with (fail)
      have hfr : Fr [w.heap.size] wr ((wr.setCell ⟨w.heap.size, 0, none⟩ (.int .i64 0)).setCell ⟨w.heap.size, 1, none⟩ (.int .i64 0)) := ((Fr.refl _ _).setCell (by simp) _).setCell (by simp) _
      have hv2 : Bl ((wr.setCell ⟨w.heap.size, 0, none⟩ (.int .i64 0)).setCell ⟨w.heap.size, 1, none⟩ (.int .i64 0)) w.heap.size 30 [.int .i64 0, .int .i64 0] := (HV.out.set 0 (.int .i64 0)).set 1 (.int .i64 0)
      (try simp only [Exit.inBlock, Exit.then])
      refine bodyPost_ret (results_cell_tmp rfl _ _ _ ⟨w.heap.size, 0, none⟩ rfl _ (load30 hv2)) rfl ?_
      unfold TakePost
      rw [HFN.out]
      refine ⟨rfl, HRR.out.fr hfr (by simp; omega) (by simp; omega), ?_⟩
      have f1 := (FR2.out.trans FR.out).mono (T := [b]) (by simp)
      refine ⟨hfr.os.trans f1.os, hfr.tape.trans f1.tape, hfr.output.trans f1.output, Nat.le_trans f1.size hfr.size, fun k hk hs => ?_⟩
      exact (hfr.block k (by have := f1.size; omega) (by simp; omega)).trans (f1.block k hk hs)
end Go.Proofs.Ytbkjiinnojnkhaa
