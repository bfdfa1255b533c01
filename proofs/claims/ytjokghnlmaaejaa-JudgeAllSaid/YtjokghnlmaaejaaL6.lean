import Derived.Test.YtjokghnlmaaejaaL4
import Derived.Deep.Slices
namespace Go.Proofs.Ytjokghnlmaaejaa
open Go.RowKit
/-! ### what is handed in -/
section
variable {H : Type} {enc : TypeId × Value → H} {W : World} {base : Nat} {held : Bool} {fuel : Nat} {cs : List Value} {x : DataW H × List MemPlace}
theorem raw_of (h : DataW.trod enc Try.prog W base (fun _ => true) held fuel 24 cs = some x) (hl : cs.length = 3) : ∃ v : Raw, cs = rawCells v := by
  obtain ⟨xs, k, hk, hxy, _, hxl, hf⟩ := DataW.trod_struct Try.underlying24 h
  have c3 : Try.prog.cellsOf 3 = 1 := by kernel_rfl
  have c2 : Try.prog.cellsOf 2 = 1 := by kernel_rfl
  have c9 : Try.prog.cellsOf 9 = 1 := by kernel_rfl
  match xs, hxl, cs, hl with
  | [y0, y1, y2], _, [v0, v1, v2], _ =>
    have g0 := hf 0 _ rfl
    have g1 := hf 1 _ rfl
    have g2 := hf 2 _ rfl
    change DataW.trod enc Try.prog W base (fun _ => true) held k 3 (List.take (Try.prog.cellsOf 3) [v0, v1, v2]) = some y0 at g0
    change DataW.trod enc Try.prog W base (fun _ => true) held k 2 (List.take (Try.prog.cellsOf 2) [v1, v2]) = some y1 at g1
    change DataW.trod enc Try.prog W base (fun _ => true) held k 9 (List.take (Try.prog.cellsOf 9) [v2]) = some y2 at g2
    rw [c3] at g0
    rw [c2] at g1
    rw [c9] at g2
    simp only [List.take_succ_cons, List.take_zero] at g0 g1 g2
    obtain ⟨z0, e0, _, w0⟩ := DataW.trod_int Try.underlying3 g0
    obtain ⟨z1, e1, _, w1⟩ := DataW.trod_int Try.underlying2 g1
    obtain ⟨z2, e2, _⟩ := DataW.trod_string Try.underlying9 g2
    injection e0 with e0 _
    injection e1 with e1 _
    injection e2 with e2 _
    subst e0 e1 e2
    exact ⟨⟨z0, z1, z2⟩, rfl⟩
theorem rec_of (h : DataW.trod enc Try.prog W base (fun _ => true) held fuel 26 cs = some x) (hl : cs.length = 5) : ∃ r : RR, cs = rrCells r := by
  obtain ⟨xs, k, hk, hxy, _, hxl, hf⟩ := DataW.trod_struct Try.underlying26 h
  have c4 : Try.prog.cellsOf 4 = 1 := by kernel_rfl
  have c24 : Try.prog.cellsOf 24 = 3 := by kernel_rfl
  have c9 : Try.prog.cellsOf 9 = 1 := by kernel_rfl
  match xs, hxl, cs, hl with
  | [y0, y1, y2], _, [v0, v1, v2, v3, v4], _ =>
    have g0 := hf 0 _ rfl
    have g1 := hf 1 _ rfl
    have g2 := hf 2 _ rfl
    change DataW.trod enc Try.prog W base (fun _ => true) held k 9 (List.take (Try.prog.cellsOf 9) [v0, v1, v2, v3, v4]) = some y0 at g0
    change DataW.trod enc Try.prog W base (fun _ => true) held k 4 (List.take (Try.prog.cellsOf 4) [v1, v2, v3, v4]) = some y1 at g1
    change DataW.trod enc Try.prog W base (fun _ => true) held k 24 (List.take (Try.prog.cellsOf 24) [v2, v3, v4]) = some y2 at g2
    rw [c9] at g0
    rw [c4] at g1
    rw [c24] at g2
    simp only [List.take_succ_cons, List.take_zero] at g0 g1 g2
    obtain ⟨z0, e0, _⟩ := DataW.trod_string Try.underlying9 g0
    obtain ⟨z1, e1, _⟩ := DataW.trod_bool Try.underlying4 g1
    obtain ⟨z2, e2⟩ := raw_of g2 rfl
    injection e0 with e0 _
    injection e1 with e1 _
    unfold rawCells at e2
    injection e2 with e2 e3
    injection e3 with e3 e4
    injection e4 with e4 _
    subst e0 e1 e2 e3 e4
    exact ⟨⟨z0, z1, z2⟩, rfl⟩
theorem pair_of (h : DataW.trod enc Try.prog W base (fun _ => true) held fuel 48 cs = some x) (hl : cs.length = 4) : ∃ p : PR, cs = prCells p := by
  obtain ⟨xs, k, hk, hxy, _, hxl, hf⟩ := DataW.trod_struct Try.underlying48 h
  have c24 : Try.prog.cellsOf 24 = 3 := by kernel_rfl
  have c9 : Try.prog.cellsOf 9 = 1 := by kernel_rfl
  match xs, hxl, cs, hl with
  | [y0, y1], _, [v0, v1, v2, v3], _ =>
    have g0 := hf 0 _ rfl
    have g1 := hf 1 _ rfl
    change DataW.trod enc Try.prog W base (fun _ => true) held k 9 (List.take (Try.prog.cellsOf 9) [v0, v1, v2, v3]) = some y0 at g0
    change DataW.trod enc Try.prog W base (fun _ => true) held k 24 (List.take (Try.prog.cellsOf 24) [v1, v2, v3]) = some y1 at g1
    rw [c9] at g0
    rw [c24] at g1
    simp only [List.take_succ_cons, List.take_zero] at g0 g1
    obtain ⟨z0, e0, _⟩ := DataW.trod_string Try.underlying9 g0
    obtain ⟨z2, e2⟩ := raw_of g1 rfl
    injection e0 with e0 _
    unfold rawCells at e2
    injection e2 with e2 e3
    injection e3 with e3 e4
    injection e4 with e4 _
    subst e0 e2 e3 e4
    exact ⟨⟨z0, z2⟩, rfl⟩
/-- A slice of pairs, of records. -/
theorem rows_of {α : Type} [Inhabited α] (cells : α → List Value) (sz : Nat) (hsz : ∀ a, (cells a).length = sz) (hsz0 : 0 < sz) {T E : TypeId} (ht : Try.prog.underlying T = some (.slice E)) (hE : Try.prog.cellsOf E = sz)
    (hone : ∀ {fuel : Nat} {cs : List Value} {x : DataW H × List MemPlace}, DataW.trod enc Try.prog W base (fun _ => true) held fuel E cs = some x → cs.length = sz → ∃ a, cs = cells a)
    {a : Option Addr} {len cap : Nat} (h : DataW.trod enc Try.prog W base (fun _ => true) held fuel T cs = some x) (hcs : cs = [.slice a len cap]) : ∃ l : List α, l.length = len ∧ Sv W W.heap.size sz (.slice a len cap) len (l.flatMap cells) := by
  rcases Go.Deep.open_slice ht h with ⟨h0, _⟩ | ⟨ad, len', cap', m, n, D, Pl, h0, hb, hl, hm, hmm, _, hx⟩
  · rw [hcs] at h0
    simp at h0
    obtain ⟨rfl, rfl, rfl⟩ := h0
    exact ⟨[], rfl, Sv.nil _ _ _⟩
  · rw [hcs] at h0
    simp at h0
    obtain ⟨rfl, rfl, rfl⟩ := h0
    simp only [if_true] at hmm
    subst hmm
    have each : ∀ i, i < m → ∃ o : α, ∀ t (ht : t < (cells o).length), W.cell? (ad.add (i * sz + t)) = some (cells o)[t] := by
      intro i hi
      obtain ⟨cs', h1, h2⟩ := hx i hi
      rw [hE] at h1
      obtain ⟨_, hlen, hcell⟩ := World.cells?_some h1
      obtain ⟨o, rfl⟩ := hone h2 hlen
      refine ⟨o, fun t ht => ?_⟩
      have := hcell t (by omega)
      rw [Go.Deep.add_add, List.getElem?_eq_getElem ht] at this
      exact this
    obtain ⟨o, ho⟩ : ∃ o : Nat → α, ∀ i, i < m → ∀ t (ht : t < (cells (o i)).length), W.cell? (ad.add (i * sz + t)) = some (cells (o i))[t] := Go.Deep.choose_lt each
    have hlen : ((List.range len).map o).length = len := by simp
    have hfl : ∀ l : List α, (l.flatMap cells).length = l.length * sz := by
      intro l
      induction l with
      | nil => simp
      | cons b l ih => simp [ih, hsz, Nat.add_mul]; omega
    have hget : ∀ (l : List α) (i t : Nat) (hi : i < l.length) (ht : t < sz), (l.flatMap cells)[i * sz + t]? = (cells l[i])[t]? := by
      intro l
      induction l with
      | nil => intro i t hi; simp at hi
      | cons b l ih =>
        intro i t hi ht
        rw [List.flatMap_cons]
        cases i with
        | zero => rw [List.getElem?_append_left (by rw [hsz]; omega)]; simp
        | succ i =>
          rw [List.getElem?_append_right (by rw [hsz, Nat.add_mul]; omega), hsz, show (i + 1) * sz + t - sz = i * sz + t by rw [Nat.add_mul]; omega]
          exact ih i t (by simpa using hi) ht
    refine ⟨(List.range len).map o, hlen, ?_⟩
    refine Sv.of_cells _ (by simp) (by rw [hfl, hlen]) hl hm ?_
    rintro y ⟨⟩ j hj
    rw [hfl, hlen] at hj
    have h1 : j / sz < len := (Nat.div_lt_iff_lt_mul hsz0).2 hj
    have h2 := Nat.mod_lt j hsz0
    have h3 : j / sz * sz + j % sz = j := Nat.div_add_mod' j sz
    have h4 := hget ((List.range len).map o) (j / sz) (j % sz) (by rw [hlen]; exact h1) h2
    rw [h3] at h4
    simp only [List.getElem_map, List.getElem_range] at h4
    have h5 := ho (j / sz) (by omega) (j % sz) (by rw [hsz]; exact h2)
    rw [h3] at h5
    rw [h5]
    rw [List.getElem?_eq_getElem (by rw [hfl, hlen]; exact hj), List.getElem?_eq_getElem (by rw [hsz]; exact h2)] at h4
    rw [Option.some.inj h4]
instance : Inhabited PR := ⟨⟨ByteArray.empty, raw0⟩⟩
instance : Inhabited RR := ⟨⟨ByteArray.empty, false, raw0⟩⟩
theorem recs_of {a : Option Addr} {len cap : Nat} (h : DataW.trod enc Try.prog W base (fun _ => true) held fuel 39 cs = some x) (hcs : cs = [.slice a len cap]) : ∃ l, Sr W W.heap.size (.slice a len cap) l := by
  obtain ⟨l, hl, hs⟩ := rows_of rrCells 5 (fun _ => rfl) (by decide) Try.underlying39 (by kernel_rfl) rec_of h hcs
  exact ⟨l, Sr.of hs hl⟩
theorem pairs_of {a : Option Addr} {len cap : Nat} (h : DataW.trod enc Try.prog W base (fun _ => true) held fuel 22 cs = some x) (hcs : cs = [.slice a len cap]) : ∃ l, Sp W W.heap.size (.slice a len cap) l := by
  obtain ⟨l, hl, hs⟩ := rows_of prCells 4 (fun _ => rfl) (by decide) Try.underlying22 (by kernel_rfl) pair_of h hcs
  exact ⟨l, Sp.of hs hl⟩
end
end Go.Proofs.Ytjokghnlmaaejaa
