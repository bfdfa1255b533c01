import Derived.Test.YtchibinlcedjaaaS16
namespace Go.Proofs.Ytchibinlcedjaaa
open Go.RowKit
def leftL : List UInt8 := [108, 101, 102, 116]
def rightL : List UInt8 := [114, 105, 103, 104, 116]
def twoD : DM := ((clean (List.replicate 6 zero64) 0).writes 0 leftL).writes 5 rightL
def leftX : List UInt8 := leftL ++ List.replicate 60 0
def rightX : List UInt8 := rightL ++ List.replicate 59 0
theorem twoD_now : twoD.secs.map (·.now) = [leftX, zero64, zero64, zero64, zero64, rightX] := by decide
theorem twoD_is : twoD.dead = false ∧ twoD.lit = false ∧ twoD.fuse = 0 ∧ twoD.calls = 2 ∧ twoD.secs.length = 6 := by decide
/-- What the loop keeps. -/
def Two (w0 wr : World) (p b s t : Nat) (la lb : List UInt8) (k : Nat) (n m : Nat) : Prop := ∃ (X : List (List UInt8)) (c : Nat) (x0 y0 : Int),
  DevAt wr p b (clean X c) ∧ Full X ∧ X[0]? = some leftX ∧ X[5]? = some rightX ∧ Holds X 1 x0 n la ∧ Holds X 3 y0 m lb ∧ SupX wr s p 1 x0 n la ∧ SupX wr t p 3 y0 m lb ∧ c ≤ 10 + 2 * k ∧ n ≤ 1 + k ∧ m ≤ 1 + k ∧ Below w0.heap.size w0 wr
theorem two_start (X : List (List UInt8)) (hX : X = [leftX, zero64, zero64, zero64, zero64, rightX]) (la lb : List UInt8) (ha : la.length ≤ 40) (hb : lb.length ≤ 40) :
    let Y := ((X.set 1 zero64).set (1 + 1) zero64).set 1 (img 1 la)
    let Z := ((Y.set 3 zero64).set (3 + 1) zero64).set 3 (img 1 lb)
    Full X ∧ Full Y ∧ Full Z ∧ Y.length = 6 ∧ Z[0]? = some leftX ∧ Z[5]? = some rightX ∧ Holds Z 1 0 1 la ∧ Holds Z 3 0 1 lb := by
  intro Y Z
  have hXf : Full X := by
    rw [hX]
    intro x hx
    simp only [List.mem_cons, List.not_mem_nil, or_false] at hx
    rcases hx with rfl | rfl | rfl | rfl | rfl | rfl <;> rfl
  have hYf : Full Y := full_make hXf 1 la ha
  have hXl : X.length = 6 := by rw [hX]; rfl
  have hYl : Y.length = 6 := by simp [Y, hXl]
  have hZf : Full Z := full_make hYf 3 lb hb
  refine ⟨hXf, hYf, hZf, hYl, ?_, ?_, ?_, Holds.make Y 3 (by omega) lb hb⟩
  · simp only [Z, Y]
    rw [List.getElem?_set_ne (by omega), List.getElem?_set_ne (by omega), List.getElem?_set_ne (by omega), List.getElem?_set_ne (by omega), List.getElem?_set_ne (by omega), List.getElem?_set_ne (by omega), hX]
    rfl
  · simp only [Z, Y]
    rw [List.getElem?_set_ne (by omega), List.getElem?_set_ne (by omega), List.getElem?_set_ne (by omega), List.getElem?_set_ne (by omega), List.getElem?_set_ne (by omega), List.getElem?_set_ne (by omega), hX]
    rfl
  · exact (((Holds.make X 1 (by omega) la ha).other 3 _ (by omega) (by omega)).other (3 + 1) _ (by omega) (by omega)).other 3 _ (by omega) (by omega)
theorem two_save1 {w0 wr w' : World} {p b s t k n m : Nat} {la lb : List UInt8} {X : List (List UInt8)} {c : Nat} {x0 y0 : Int} (hX : Full X) (hD : DevAt wr p b (clean X c)) (h0 : X[0]? = some leftX) (h5 : X[5]? = some rightX) (ha : Holds X 1 x0 n la) (hb : Holds X 3 y0 m lb)
    (hs : SupX wr s p 1 x0 n la) (ht : SupX wr t p 3 y0 m lb) (hc : c ≤ 10 + 2 * k) (hn : n ≤ 1 + k) (hm : m ≤ 1 + k) (hk : k < 100) (bel : Below w0.heap.size w0 wr) (hst : t ≠ s) (hs0 : ∀ i ∈ [s, p, b], w0.heap.size ≤ i) {e : Ending} (h : Saved wr s p b 1 X c x0 n la e w') :
    Two w0 w' p b s t la lb (k + 1) (n + 1) m := by
  obtain ⟨_, h2, h3, h4⟩ := h
  have hsl := ha.slot
  have hla : la.length ≤ 40 := ha.2.2.1
  refine ⟨_, _, _, y0, h2, hX.set _ (img_len _ _ (by omega)), ?_, ?_, ha.save la hla (by omega), hb.other _ _ (by omega) (by omega), h3, ht.fr_other hs hD h4 hst, by omega, by omega, by omega, bel.trans (h4.below bel.size hs0)⟩
  · rw [List.getElem?_set_ne (by omega)]; exact h0
  · rw [List.getElem?_set_ne (by omega)]; exact h5
theorem two_save2 {w0 wr w' : World} {p b s t k n m : Nat} {la lb : List UInt8} {X : List (List UInt8)} {c : Nat} {x0 y0 : Int} (hX : Full X) (hD : DevAt wr p b (clean X c)) (h0 : X[0]? = some leftX) (h5 : X[5]? = some rightX) (ha : Holds X 1 x0 n la) (hb : Holds X 3 y0 m lb)
    (hs : SupX wr s p 1 x0 n la) (ht : SupX wr t p 3 y0 m lb) (hc : c ≤ 10 + 2 * k) (hn : n ≤ 1 + k) (hm : m ≤ 1 + k) (hk : k < 100) (bel : Below w0.heap.size w0 wr) (hst : s ≠ t) (hs0 : ∀ i ∈ [t, p, b], w0.heap.size ≤ i) {e : Ending} (h : Saved wr t p b 3 X c y0 m lb e w') :
    Two w0 w' p b s t la lb (k + 1) n (m + 1) := by
  obtain ⟨_, h2, h3, h4⟩ := h
  have hsl := hb.slot
  have hlb : lb.length ≤ 40 := hb.2.2.1
  refine ⟨_, _, x0, _, h2, hX.set _ (img_len _ _ (by omega)), ?_, ?_, ha.other _ _ (by omega) (by omega), hb.save lb hlb (by omega), hs.fr_other ht hD h4 hst, h3, by omega, by omega, by omega, bel.trans (h4.below bel.size hs0)⟩
  · rw [List.getElem?_set_ne (by omega)]; exact h0
  · rw [List.getElem?_set_ne (by omega)]; exact h5
end Go.Proofs.Ytchibinlcedjaaa
