import Derived.Test.YtjokghnlmaaejaaJ9
namespace Go.Proofs.Ytjokghnlmaaejaa
open Go.RowKit
/-! ### judge.Of -/
theorem ofF_succ {l : List RR} {k : Nat} (h : k < l.length) : ofF (l.take (k + 1)) = setF (ofF (l.take k)) l[k] := by
  unfold ofF
  rw [List.take_succ_eq_append_getElem h, List.foldl_append]
  rfl
theorem ofF_len (l : List RR) : (ofF l).length ≤ l.length := by
  have : ∀ (l : List RR) (a : List PR), (l.foldl setF a).length ≤ a.length + l.length := by
    intro l
    induction l with
    | nil => intro a; simp
    | cons r l ih =>
      intro a
      have h1 := ih (setF a r)
      have h2 := setF_len a r
      simp only [List.foldl_cons, List.length_cons]
      omega
  simpa [ofF] using this l []
set_option maxHeartbeats 2000000 in
theorem ofs_c (w : World) (v : Value) (l : List RR) (h : Sr w w.heap.size v l) (hl : l.length ≤ 999) :
    Calls Try.prog 22 #[v] w fun e w' => Gives w (ofF l) e w' := by
  obtain ⟨a, cap, rfl, _⟩ := h.form
  have H := Lib.hid h
  clear h
  go_enter Try.func22, Try.ntmps22
  go_wp2_with (fail)
  go_loopg [3, 8] l.length (fun q out i wr => ∃ k : Nat, k + q = l.length ∧ i = .int .i64 (k : Int) ∧ Sp wr wr.heap.size out (ofF (l.take k)) ∧ Below w.heap.size w wr)
  case atStart => exact ⟨0, by omega, rfl, Sv.nil _ _ _, Below.refl _ _⟩
  case round =>
    obtain ⟨k, hk, rfl, sp, bel⟩ := hrel
    have BEL := Lib.hid bel
    have SP := Lib.hid sp
    have hwz := bel.size
    by_cases hlt : k < l.length
    · obtain ⟨b, off, rfl, hb, c0, c1, c2, c3, c4⟩ := H.out.at_ k hlt
      have i4 : (k : Int) < (l.length : Int) := by omega
      rw [← bel.cell (p := ⟨b, off + k * 5, none⟩) hb] at c0
      rw [← bel.cell (p := ⟨b, off + k * 5 + 1, none⟩) hb] at c1
      rw [← bel.cell (p := ⟨b, off + k * 5 + 2, none⟩) hb] at c2
      rw [← bel.cell (p := ⟨b, off + k * 5 + 3, none⟩) hb] at c3
      rw [← bel.cell (p := ⟨b, off + k * 5 + 4, none⟩) hb] at c4
      have HO := Lib.hid (ofF_succ hlt)
      have hlen : (ofF (l.take k)).length ≤ 999 := by
        have := ofF_len (l.take k)
        rw [List.length_take] at this
        omega
      clear bel sp
      generalize l[k] = r at *
      have hal : Below wr.heap.size wr (wr.alloc (.cells #[.string r.k, .bool r.gone, .int .i64 r.v.kind, .int .i64 r.v.n, .string r.v.s] 26)) := (Below.refl _ _).alloc (Nat.le_refl _) _
      have hbx : Bl (wr.alloc (.cells #[.string r.k, .bool r.gone, .int .i64 r.v.kind, .int .i64 r.v.n, .string r.v.s] 26)) wr.heap.size 26 [.string r.k, .bool r.gone, .int .i64 r.v.kind, .int .i64 r.v.n, .string r.v.s] := Bl.new _ _ _
      go_upto_region 5 with (fail)
      generalize wr.alloc (.cells #[.string r.k, .bool r.gone, .int .i64 r.v.kind, .int .i64 r.v.n, .string r.v.s] 26) = w2 at *
      have d0 : w2.cell? ⟨wr.heap.size, 0, none⟩ = some (.string r.k) := hbx.cell 0
      have d1 : w2.cell? ⟨wr.heap.size, 1, none⟩ = some (.bool r.gone) := hbx.cell 1
      have d2 : w2.cell? ⟨wr.heap.size, 2, none⟩ = some (.int .i64 r.v.kind) := hbx.cell 2
      have d3 : w2.cell? ⟨wr.heap.size, 3, none⟩ = some (.int .i64 r.v.n) := hbx.cell 3
      have d4 : w2.cell? ⟨wr.heap.size, 4, none⟩ = some (.string r.v.s) := hbx.cell 4
      have hsz := hal.size
      have HS := Lib.hid (set_c w2 _ _ r (SP.out.below hsz hal (Nat.le_refl _)) hlen)
      have B2 := Lib.hid (BEL.out.trans (hal.mono hwz))
      clear hal hbx c0 c1 c2 c3 c4
      go_wp2_with (fail)
      refine HS.out.mono ?_
      rintro e w3 ⟨⟨u, rfl, sp⟩, bel⟩
      have SP3 := Lib.hid sp
      have B3 := Lib.hid (B2.out.trans (bel.mono (by omega)))
      clear sp bel
      go_wp2_with (fail)
      go_roundg (l.length - (k + 1))
      case measure => omega
      case rel => exact ⟨k + 1, by omega, by go_num, by rw [HO.out]; exact SP3.out, B3.out⟩
    · have e : k = l.length := by omega
      subst e
      rw [List.take_length] at SP
      clear bel sp
      go_wp2_with (fail)
      go_ret
      exact ⟨⟨_, rfl, SP.out⟩, BEL.out⟩
end Go.Proofs.Ytjokghnlmaaejaa
