import Derived.Test.YtchibinlcedjaaaV1
import Derived.Deep.Grids
namespace Go.Proofs.Ytchibinlcedjaaa
open Go.RowKit Go.ChangeShapes Go.WideShapes
/-! ### the operations that are handed in -/
def I64 (x : Int) : Prop := -9223372036854775808 ≤ x ∧ x ≤ 9223372036854775807
structure OpR where
  kind : Int
  i : Int
  b : List UInt8
  keep : List Bool
  deriving Inhabited
/-- A slice of operations. -/
def So (w : World) (B : Nat) (v : Value) (l : List OpR) : Prop := ∃ a cap, v = .slice a l.length cap ∧ l.length ≤ 9223372036854775807 ∧ ∀ k (h : k < l.length), ∃ b off vb vk, a = some ⟨b, off, none⟩ ∧ b < B ∧
  w.cell? ⟨b, off + k * 4, none⟩ = some (.int .i64 l[k].kind) ∧ w.cell? ⟨b, off + k * 4 + 1, none⟩ = some (.int .i64 l[k].i) ∧ w.cell? ⟨b, off + k * 4 + 2, none⟩ = some vb ∧ w.cell? ⟨b, off + k * 4 + 3, none⟩ = some vk ∧
  I64 l[k].kind ∧ I64 l[k].i ∧ Sl w B vb l[k].b ∧ Sb w B vk l[k].keep
theorem bools_of {H : Type} {enc : TypeId × Value → H} {W : World} {base : Nat} {held : Bool} {fuel : Nat} {cs : List Value} {x : DataW H × List MemPlace} {vi : Value}
    (h : DataW.trod enc Try.prog W base (fun _ => true) held fuel 28 cs = some x) (hcs : cs = [vi]) : ∃ l, Sb W W.heap.size vi l := by
  rcases Go.Deep.open_bools Try.underlying28 Try.underlying4 (by kernel_rfl) h with ⟨h0, _⟩ | ⟨x, l, c, f, h0, _, hl, hm, _, hcell⟩
  · rw [hcs] at h0
    simp at h0
    subst h0
    exact ⟨[], Sv.nil _ _ _⟩
  · rw [hcs] at h0
    simp at h0
    subst h0
    exact Sb.of_bools hl hm hcell
theorem ops_of {H : Type} {enc : TypeId × Value → H} {W : World} {base : Nat} {held : Bool} {fuel : Nat} {cs : List Value} {x : DataW H × List MemPlace} {a : Option Addr} {len cap : Nat}
    (h : DataW.trod enc Try.prog W base (fun _ => true) held fuel 22 cs = some x) (hcs : cs = [.slice a len cap]) : ∃ l, So W W.heap.size (.slice a len cap) l := by
  rcases Go.Deep.open_slice Try.underlying22 h with ⟨h0, _⟩ | ⟨ad, len', cap', m, n, D, Pl, h0, hb, hl, hm, hmm, _, hx⟩
  · rw [hcs] at h0
    simp at h0
    obtain ⟨rfl, rfl, rfl⟩ := h0
    exact ⟨[], none, 0, rfl, by simp, fun i h => absurd h (by simp)⟩
  · rw [hcs] at h0
    simp at h0
    obtain ⟨rfl, rfl, rfl⟩ := h0
    simp only [if_true] at hmm
    subst hmm
    have ce : Try.prog.cellsOf 33 = 4 := by kernel_rfl
    have each : ∀ i, i < m → ∃ o : OpR × Value × Value, (W.cell? (ad.add (i * 4)) = some (.int .i64 o.1.kind) ∧ W.cell? (ad.add (i * 4 + 1)) = some (.int .i64 o.1.i) ∧ W.cell? (ad.add (i * 4 + 2)) = some o.2.1 ∧ W.cell? (ad.add (i * 4 + 3)) = some o.2.2) ∧ I64 o.1.kind ∧ I64 o.1.i ∧ Sl W W.heap.size o.2.1 o.1.b ∧ Sb W W.heap.size o.2.2 o.1.keep := by
      intro i hi
      obtain ⟨cs', h1, h2⟩ := hx i hi
      rw [ce] at h1
      obtain ⟨_, hlen, hcell⟩ := World.cells?_some h1
      obtain ⟨xs, k, hk, hxy, _, hxl, hf⟩ := DataW.trod_struct Try.underlying33 h2
      have c3 : Try.prog.cellsOf 3 = 1 := by kernel_rfl
      have c31 : Try.prog.cellsOf 31 = 1 := by kernel_rfl
      have c28 : Try.prog.cellsOf 28 = 1 := by kernel_rfl
      match xs, hxl, cs', hlen with
      | [y0, y1, y2, y3], _, [v0, v1, v2, v3], _ =>
        have g0 := hf 0 _ rfl
        have g1 := hf 1 _ rfl
        have g2 := hf 2 _ rfl
        have g3 := hf 3 _ rfl
        change DataW.trod enc Try.prog W base (fun _ => true) held k 3 (List.take (Try.prog.cellsOf 3) [v0, v1, v2, v3]) = some y0 at g0
        change DataW.trod enc Try.prog W base (fun _ => true) held k 3 (List.take (Try.prog.cellsOf 3) [v1, v2, v3]) = some y1 at g1
        change DataW.trod enc Try.prog W base (fun _ => true) held k 31 (List.take (Try.prog.cellsOf 31) [v2, v3]) = some y2 at g2
        change DataW.trod enc Try.prog W base (fun _ => true) held k 28 (List.take (Try.prog.cellsOf 28) [v3]) = some y3 at g3
        rw [c3] at g0 g1
        rw [c31] at g2
        rw [c28] at g3
        simp only [List.take_succ_cons, List.take_zero] at g0 g1 g2 g3
        obtain ⟨z0, e0, _, w0⟩ := DataW.trod_int Try.underlying3 g0
        obtain ⟨z1, e1, _, w1⟩ := DataW.trod_int Try.underlying3 g1
        injection e0 with e0 _
        injection e1 with e1 _
        subst e0 e1
        obtain ⟨lb, hlb⟩ := bytes_of g2 rfl
        obtain ⟨lk, hlk⟩ := bools_of g3 rfl
        have q0 := hcell 0 (by omega)
        have q1 := hcell 1 (by omega)
        have q2 := hcell 2 (by omega)
        have q3 := hcell 3 (by omega)
        rw [Go.Deep.add_add] at q0 q1 q2 q3
        exact ⟨(⟨z0, z1, lb, lk⟩, v2, v3), ⟨q0, q1, q2, q3⟩, bounds_i64 w0, bounds_i64 w1, hlb, hlk⟩
    obtain ⟨o, ho⟩ := Go.Deep.choose_lt each
    have hlen : ((List.range len).map fun i => (o i).1).length = len := by simp
    refine ⟨(List.range len).map fun i => (o i).1, some ad, m, by rw [hlen], by rw [hlen]; unfold maxLen at hm; omega, fun i hi => ?_⟩
    rw [hlen] at hi
    obtain ⟨⟨q0, q1, q2, q3⟩, r0, r1, r2, r3⟩ := ho i (by omega)
    obtain ⟨b, off, spot⟩ := ad
    have hsp : spot = none := by
      have := World.cell?_spot (ho 0 (by omega)).1.1
      simpa [Addr.add] using this
    subst hsp
    rw [add_at] at q0 q1 q2 q3
    have el : ((List.range len).map fun i => (o i).1)[i]'(by rw [hlen]; exact hi) = (o i).1 := by simp
    rw [el]
    rw [← Nat.add_assoc] at q1 q2 q3
    exact ⟨b, off, _, _, rfl, by simpa using lt_of_cell q0, q0, q1, q2, q3, r0, r1, r2, r3⟩
end Go.Proofs.Ytchibinlcedjaaa
