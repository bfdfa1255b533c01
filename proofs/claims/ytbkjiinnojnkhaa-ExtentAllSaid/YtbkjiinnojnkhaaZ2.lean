import Derived.Test.YtbkjiinnojnkhaaZ1
import Derived.Deep.Slices
namespace Go.Proofs.Ytbkjiinnojnkhaa
open Go.RowKit
/-! ### the operations that are handed in -/
def opCells (l : List (Int × Int × Int)) : List Value := (l.map fun o => [Value.int .i64 o.1, Value.int .i64 o.2.1, Value.int .i64 o.2.2]).flatten
def I64 (x : Int) : Prop := -9223372036854775808 ≤ x ∧ x ≤ 9223372036854775807
def So (w : World) (B : Nat) (v : Value) (l : List (Int × Int × Int)) : Prop := Sv w B 3 v l.length (opCells l) ∧ ∀ o ∈ l, I64 o.1 ∧ I64 o.2.1 ∧ I64 o.2.2
theorem opCells_len : ∀ l : List (Int × Int × Int), (opCells l).length = l.length * 3
  | [] => rfl
  | s :: l => by
    have := opCells_len l
    simp only [opCells, List.map_cons, List.flatten_cons, List.length_append, List.length_cons, List.length_nil] at *
    omega
theorem opCells_get : ∀ (l : List (Int × Int × Int)) (i : Nat) (h : i < l.length), (opCells l)[i * 3]? = some (.int .i64 l[i].1) ∧ (opCells l)[i * 3 + 1]? = some (.int .i64 l[i].2.1) ∧ (opCells l)[i * 3 + 2]? = some (.int .i64 l[i].2.2)
  | o :: l, 0, _ => ⟨rfl, rfl, rfl⟩
  | o :: l, i + 1, h => by
    have := opCells_get l i (by simpa using h)
    have e : opCells (o :: l) = [Value.int .i64 o.1, Value.int .i64 o.2.1, Value.int .i64 o.2.2] ++ opCells l := rfl
    rw [e, show (i + 1) * 3 = 3 + i * 3 by omega, List.getElem?_append_right (by simp), List.getElem?_append_right (by simp; omega), List.getElem?_append_right (by simp; omega)]
    simp only [List.length_cons, List.length_nil, List.getElem_cons_succ]
    rw [show 3 + i * 3 - (0 + 1 + 1 + 1) = i * 3 by omega, show 3 + i * 3 + 1 - (0 + 1 + 1 + 1) = i * 3 + 1 by omega, show 3 + i * 3 + 2 - (0 + 1 + 1 + 1) = i * 3 + 2 by omega]
    exact this
theorem So.at_ {w : World} {B : Nat} {a : Option Addr} {m cap : Nat} {l : List (Int × Int × Int)} (h : So w B (.slice a m cap) l) (k : Nat) (hk : k < l.length) :
    ∃ b off, a = some ⟨b, off, none⟩ ∧ b < B ∧ w.cell? ⟨b, off + k * 3, none⟩ = some (.int .i64 l[k].1) ∧ w.cell? ⟨b, off + k * 3 + 1, none⟩ = some (.int .i64 l[k].2.1) ∧ w.cell? ⟨b, off + k * 3 + 2, none⟩ = some (.int .i64 l[k].2.2) := by
  have hl := opCells_len l
  obtain ⟨b, off, e, hb, hc⟩ := Sv.at_ h.1 (by omega)
  obtain ⟨g0, g1, g2⟩ := opCells_get l k hk
  have g : ∀ (i : Nat) (u : Value), (opCells l)[i]? = some u → w.cell? ⟨b, off + i, none⟩ = some u := by
    intro i u hi
    obtain ⟨h1, h2⟩ := List.getElem?_eq_some_iff.1 hi
    rw [hc i h1, h2]
  refine ⟨b, off, e, hb, g _ _ g0, ?_, ?_⟩
  · rw [Nat.add_assoc]; exact g _ _ g1
  · rw [Nat.add_assoc]; exact g _ _ g2
theorem ops_of {H : Type} {enc : TypeId × Value → H} {W : World} {base : Nat} {held : Bool} {fuel : Nat} {cs : List Value} {x : DataW H × List MemPlace} {a : Option Addr} {len cap : Nat}
    (h : DataW.trod enc Try.prog W base (fun _ => true) held fuel 22 cs = some x) (hcs : cs = [.slice a len cap]) : ∃ l, So W W.heap.size (.slice a len cap) l := by
  rcases Go.Deep.open_slice Try.underlying22 h with ⟨h0, _⟩ | ⟨ad, len', cap', m, n, D, Pl, h0, hb, hl, hm, hmm, _, hx⟩
  · rw [hcs] at h0
    simp at h0
    obtain ⟨rfl, rfl, rfl⟩ := h0
    exact ⟨[], Sv.nil _ _ _, by simp⟩
  · rw [hcs] at h0
    simp at h0
    obtain ⟨rfl, rfl, rfl⟩ := h0
    simp only [if_true] at hmm
    subst hmm
    have ce : Try.prog.cellsOf 28 = 3 := by kernel_rfl
    have each : ∀ i, i < m → ∃ o : Int × Int × Int, (W.cell? (ad.add (i * 3)) = some (.int .i64 o.1) ∧ W.cell? (ad.add (i * 3 + 1)) = some (.int .i64 o.2.1) ∧ W.cell? (ad.add (i * 3 + 2)) = some (.int .i64 o.2.2)) ∧ I64 o.1 ∧ I64 o.2.1 ∧ I64 o.2.2 := by
      intro i hi
      obtain ⟨cs', h1, h2⟩ := hx i hi
      rw [ce] at h1
      obtain ⟨_, hlen, hcell⟩ := World.cells?_some h1
      obtain ⟨xs, k, hk, hxy, _, hxl, hf⟩ := DataW.trod_struct Try.underlying28 h2
      have c3 : Try.prog.cellsOf 3 = 1 := by kernel_rfl
      match xs, hxl, cs', hlen with
      | [y0, y1, y2], _, [v0, v1, v2], _ =>
        have g0 := hf 0 _ rfl
        have g1 := hf 1 _ rfl
        have g2 := hf 2 _ rfl
        change DataW.trod enc Try.prog W base (fun _ => true) held k 3 (List.take (Try.prog.cellsOf 3) [v0, v1, v2]) = some y0 at g0
        change DataW.trod enc Try.prog W base (fun _ => true) held k 3 (List.take (Try.prog.cellsOf 3) [v1, v2]) = some y1 at g1
        change DataW.trod enc Try.prog W base (fun _ => true) held k 3 (List.take (Try.prog.cellsOf 3) [v2]) = some y2 at g2
        rw [c3] at g0 g1 g2
        simp only [List.take_succ_cons, List.take_zero] at g0 g1 g2
        obtain ⟨z0, e0, _, w0⟩ := DataW.trod_int Try.underlying3 g0
        obtain ⟨z1, e1, _, w1⟩ := DataW.trod_int Try.underlying3 g1
        obtain ⟨z2, e2, _, w2⟩ := DataW.trod_int Try.underlying3 g2
        injection e0 with e0 _
        injection e1 with e1 _
        injection e2 with e2 _
        subst e0 e1 e2
        have q0 := hcell 0 (by omega)
        have q1 := hcell 1 (by omega)
        have q2 := hcell 2 (by omega)
        rw [Go.Deep.add_add] at q0 q1 q2
        exact ⟨(z0, z1, z2), ⟨q0, q1, q2⟩, bounds_i64 w0, bounds_i64 w1, bounds_i64 w2⟩
    obtain ⟨o, ho⟩ : ∃ o : Nat → Int × Int × Int, ∀ i, i < m → (W.cell? (ad.add (i * 3)) = some (.int .i64 (o i).1) ∧ W.cell? (ad.add (i * 3 + 1)) = some (.int .i64 (o i).2.1) ∧ W.cell? (ad.add (i * 3 + 2)) = some (.int .i64 (o i).2.2)) ∧ I64 (o i).1 ∧ I64 (o i).2.1 ∧ I64 (o i).2.2 :=
      Go.Deep.choose_lt each
    have hlen : ((List.range len).map o).length = len := by simp
    refine ⟨(List.range len).map o, ?_, fun z hz => ?_⟩
    · rw [hlen]
      refine Sv.of_cells _ (by simp) (by rw [opCells_len, hlen]) hl hm ?_
      rintro y ⟨⟩ j hj
      rw [opCells_len, hlen] at hj
      obtain ⟨g0, g1, g2⟩ := opCells_get ((List.range len).map o) (j / 3) (by rw [hlen]; omega)
      obtain ⟨⟨q0, q1, q2⟩, _⟩ := ho (j / 3) (by omega)
      simp only [List.getElem_map, List.getElem_range] at g0 g1 g2
      have hget : (opCells ((List.range len).map o))[j]? = some (opCells ((List.range len).map o))[j] := List.getElem?_eq_getElem _
      rcases (by omega : j = j / 3 * 3 ∨ j = j / 3 * 3 + 1 ∨ j = j / 3 * 3 + 2) with e | e | e
      · rw [← hget, e, g0, q0]
      · rw [← hget, e, g1, q1]
      · rw [← hget, e, g2, q2]
    · simp only [List.mem_map, List.mem_range] at hz
      obtain ⟨i, hi, rfl⟩ := hz
      exact (ho i (by omega)).2
end Go.Proofs.Ytbkjiinnojnkhaa
