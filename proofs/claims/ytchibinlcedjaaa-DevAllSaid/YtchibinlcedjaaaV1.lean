import Derived.Test.YtchibinlcedjaaaS16
import Derived.Deep.Slices
import Derived.WalkKit
import Derived.ProofKit
import Derived.OpenShut
import Derived.ShutString
import Derived.ChangeOld
namespace Go.Proofs.Ytchibinlcedjaaa
open Go.RowKit Go.ChangeShapes Go.WideShapes Go.ChangeAt
/-- A slice of slices of bytes. -/
def Sll (w : World) (B : Nat) (v : Value) (L : List (List UInt8)) : Prop := ∃ a cap, v = .slice a L.length cap ∧ L.length ≤ 9223372036854775807 ∧ ∀ i (h : i < L.length), ∃ b off vi, a = some ⟨b, off, none⟩ ∧ b < B ∧ w.cell? ⟨b, off + i, none⟩ = some vi ∧ Sl w B vi L[i]
theorem bytes_of {H : Type} {enc : TypeId × Value → H} {W : World} {base : Nat} {held : Bool} {fuel : Nat} {cs : List Value} {x : DataW H × List MemPlace} {vi : Value}
    (h : DataW.trod enc Try.prog W base (fun _ => true) held fuel 31 cs = some x) (hcs : cs = [vi]) : ∃ l, Sl W W.heap.size vi l := by
  rcases open_ints Try.underlying31 Try.underlying5 (by kernel_rfl) h with ⟨h0, _⟩ | ⟨x, l, c, zs, h0, _, hl, hm, hz, _, hcell, hwz⟩
  · rw [hcs] at h0
    simp at h0
    subst h0
    exact ⟨[], Sv.nil _ _ _⟩
  · rw [hcs] at h0
    simp at h0
    subst h0
    exact Sl.of_row (zs := zs) (.inr ⟨_, rfl, hl, hm, by simpa using hz, hcell, hwz⟩)
theorem rows_of {H : Type} {enc : TypeId × Value → H} {W : World} {base : Nat} {held : Bool} {fuel : Nat} {cs : List Value} {x : DataW H × List MemPlace} {a : Option Addr} {len cap : Nat}
    (h : DataW.trod enc Try.prog W base (fun _ => true) held fuel 27 cs = some x) (hcs : cs = [.slice a len cap]) : ∃ L, Sll W W.heap.size (.slice a len cap) L := by
  rcases Go.Deep.open_slice1 Try.underlying27 (by kernel_rfl) h with ⟨h0, _⟩ | ⟨ad, len', cap', m, n, V, D, Pl, h0, hb, hl, hm, hmm, _, hx⟩
  · rw [hcs] at h0
    simp at h0
    obtain ⟨rfl, rfl, rfl⟩ := h0
    exact ⟨[], none, 0, rfl, by simp, fun i h => absurd h (by simp)⟩
  · rw [hcs] at h0
    simp at h0
    obtain ⟨rfl, rfl, rfl⟩ := h0
    simp only [if_true] at hmm
    subst hmm
    have each : ∀ i, i < m → ∃ l, Sl W W.heap.size (V i) l := fun i hi => bytes_of (hx i hi).2 rfl
    obtain ⟨o, ho⟩ : ∃ o : Nat → List UInt8, ∀ i, i < m → Sl W W.heap.size (V i) (o i) := Go.Deep.choose_lt each
    have hlen : ((List.range len).map o).length = len := by simp
    refine ⟨(List.range len).map o, some ad, m, by rw [hlen], by rw [hlen]; unfold maxLen at hm; omega, fun i hi => ?_⟩
    rw [hlen] at hi
    obtain ⟨h1, _⟩ := hx i (by omega)
    obtain ⟨b, off, spot⟩ := ad
    have hsp : spot = none := by
      have := World.cell?_spot (hx 0 (by omega)).1
      simpa [Addr.add] using this
    subst hsp
    rw [add_at] at h1
    refine ⟨b, off, V i, rfl, by simpa using lt_of_cell h1, h1, ?_⟩
    simp only [List.getElem_map, List.getElem_range]
    exact ho i (by omega)
end Go.Proofs.Ytchibinlcedjaaa
