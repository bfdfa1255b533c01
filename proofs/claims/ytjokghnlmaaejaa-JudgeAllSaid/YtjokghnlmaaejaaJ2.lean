import Derived.Test.YtjokghnlmaaejaaJ1
import Derived.Lib.OthersKept
import Derived.Lib.RuneCount
import Derived.Lib.DecodeN
namespace Go.Proofs.Ytjokghnlmaaejaa
open Go.RowKit
/-! ### runes.Valid -/
/-- Is each rune from a place on written in its bytes? -/
def rvF (s : ByteArray) : Nat → Nat → Bool
  | 0, _ => true
  | f + 1, pos => if pos < s.size then (if Utf8.decode s pos = (65533, 1) then false else rvF s f (pos + (Utf8.decode s pos).2)) else true
def rvAt (s : ByteArray) (pos : Nat) : Bool := rvF s (s.size - pos) pos
def rv (s : ByteArray) : Bool := rvAt s 0
theorem rvF_more (s : ByteArray) : ∀ (f g pos : Nat), s.size - pos ≤ f → s.size - pos ≤ g → rvF s f pos = rvF s g pos := by
  intro f
  induction f with
  | zero =>
    intro g pos h1 h2
    cases g with
    | zero => rfl
    | succ g => simp only [rvF]; rw [if_neg (by omega)]
  | succ f ih =>
    intro g pos h1 h2
    cases g with
    | zero => simp only [rvF]; rw [if_neg (by omega)]
    | succ g =>
      simp only [rvF]
      by_cases h : pos < s.size
      · have := Lib.decode_width_pos s pos h
        rw [ih g (pos + (Utf8.decode s pos).2) (by omega) (by omega)]
      · rw [if_neg h, if_neg h]
theorem rvAt_step (s : ByteArray) (pos : Nat) (h : pos < s.size) : rvAt s pos = if Utf8.decode s pos = (65533, 1) then false else rvAt s (pos + (Utf8.decode s pos).2) := by
  unfold rvAt
  have h1 : s.size - pos = (s.size - pos - 1) + 1 := by omega
  rw [h1, rvF, if_pos h]
  have := Lib.decode_width_pos s pos h
  rw [rvF_more s (s.size - pos - 1) (s.size - (pos + (Utf8.decode s pos).2)) _ (by omega) (by omega)]
theorem rvAt_end (s : ByteArray) (pos : Nat) (h : ¬ pos < s.size) : rvAt s pos = true := by
  unfold rvAt
  rw [show s.size - pos = 0 by omega, rvF]
theorem width_le (s : ByteArray) (pos : Nat) (h : pos < s.size) : pos + (Utf8.decode s pos).2 ≤ s.size := by
  have : (Utf8.decode s pos).2 ≤ s.size - pos := by
    rw [Lib.decode_at]
    unfold Lib.decodeN
    repeat' split
    all_goals (simp only; omega)
  omega
set_option maxHeartbeats 1000000 in
theorem valid_c (w : World) (s : ByteArray) (hs : s.size ≤ 1000) : Calls Try.prog 43 #[.string s] w fun e w' => e = .returned (.bool (rv s)) ∧ Below w.heap.size w w' := by
  have hit : (w.iter s 0).heap[w.heap.size]? = some (.stringIter s 0) := World.iter_heap w s 0
  have bel : Below w.heap.size w (w.iter s 0) := (Below.refl _ _).alloc (Nat.le_refl _) _
  have HIT := Lib.hid hit
  have BEL := Lib.hid bel
  clear hit bel
  go_enter Try.func43, Try.ntmps43
  go_wp2_with (fail)
  go_loopg [3] s.size (fun q l wr => ∃ pos : Nat, (pos + q = s.size) ∧ wr.heap[w.heap.size]? = some (.stringIter s pos) ∧ Below w.heap.size w wr ∧ ((l = .int .i64 (-1) ∧ rv s = rvAt s pos) ∨ ∃ la : Nat, l = .int .i64 (la : Int) ∧ la < pos ∧ rv s = if pos = la + 1 then false else rvAt s pos))
  case atStart => exact ⟨0, by omega, HIT.out, BEL.out, .inl ⟨rfl, rfl⟩⟩
  case round =>
    obtain ⟨pos, hq, hit, bel, hl⟩ := hrel
    have BEL := Lib.hid bel
    clear bel
    by_cases hlt : pos < s.size
    · have hnx : ∀ ty, (Instr.next (.pointer (some ⟨w.heap.size, 0, none⟩)) true ty).run Try.prog wr = _ := fun ty => Lib.run_next_any_at wr w.heap.size s pos ty hit hlt
      have hst := rvAt_step s pos hlt
      have h1 := Lib.decode_width_pos s pos hlt
      have h2 := width_le s pos hlt
      have HH := Lib.hid (Lib.iterAt_heap wr w.heap.size s pos (pos + (Utf8.decode s pos).2) hit)
      have HB := Lib.hid (Lib.below_iterAt BEL.out (Nat.le_refl w.heap.size) s (pos + (Utf8.decode s pos).2))
      generalize Utf8.decode s pos = cd at *
      obtain ⟨c, d⟩ := cd
      simp only at hnx h1 h2
      clear hit
      rcases hl with ⟨rfl, hrv⟩ | ⟨la, rfl, hla, hrv⟩
      · by_cases hc : c = 65533
        · have hd : decide ((c : Int) = 65533) = true := by simp; omega
          subst hc
          have HRV := Lib.hid (show rv s = if pos + d = pos + 1 then false else rvAt s (pos + d) by
            rw [hrv, hst]
            by_cases h4 : d = 1
            · subst h4; simp
            · rw [if_neg (by simp; omega), if_neg (by omega)])
          clear hrv hst
          go_wp2_with (fail)
          go_roundg (s.size - (pos + d))
          case measure => omega
          case rel => exact ⟨pos + d, by omega, HH.out, HB.out, .inr ⟨pos, rfl, by omega, HRV.out⟩⟩
        · have hd : decide ((c : Int) = 65533) = false := by simp; omega
          have HRV := Lib.hid (show rv s = rvAt s (pos + d) by
            rw [hrv, hst, if_neg (by simp; omega)])
          clear hrv hst
          go_wp2_with (fail)
          go_roundg (s.size - (pos + d))
          case measure => omega
          case rel => exact ⟨pos + d, by omega, HH.out, HB.out, .inl ⟨rfl, HRV.out⟩⟩
      · have h5 : decide ((la : Int) ≥ 0) = true := by simp
        by_cases h3 : pos = la + 1
        · have h6 : decide ((pos : Int) = (la : Int) + 1) = true := by simp; omega
          have HRV := Lib.hid (show rv s = false by rw [hrv, if_pos h3])
          clear hrv hst
          go_wp2_with (fail)
          go_ret
          exact ⟨by rw [HRV.out]; rfl, by rw [← h3]; exact HB.out⟩
        · have h6 : decide ((pos : Int) = (la : Int) + 1) = false := by simp; omega
          by_cases hc : c = 65533
          · have hd : decide ((c : Int) = 65533) = true := by simp; omega
            subst hc
            have HRV := Lib.hid (show rv s = if pos + d = pos + 1 then false else rvAt s (pos + d) by
              rw [hrv, if_neg h3, hst]
              by_cases h4 : d = 1
              · subst h4; simp
              · rw [if_neg (by simp; omega), if_neg (by omega)])
            clear hrv hst
            go_wp2_with (fail)
            go_roundg (s.size - (pos + d))
            case measure => omega
            case rel => exact ⟨pos + d, by omega, HH.out, HB.out, .inr ⟨pos, rfl, by omega, HRV.out⟩⟩
          · have hd : decide ((c : Int) = 65533) = false := by simp; omega
            have HRV := Lib.hid (show rv s = rvAt s (pos + d) by
              rw [hrv, if_neg h3, hst, if_neg (by simp; omega)])
            clear hrv hst
            go_wp2_with (fail)
            go_roundg (s.size - (pos + d))
            case measure => omega
            case rel => exact ⟨pos + d, by omega, HH.out, HB.out, .inl ⟨rfl, HRV.out⟩⟩
    · have hnx : ∀ ty, (Instr.next (.pointer (some ⟨w.heap.size, 0, none⟩)) true ty).run Try.prog wr = _ := fun ty => Lib.run_next_end_at wr w.heap.size s pos ty hit hlt
      have hst := rvAt_end s pos hlt
      clear hit
      rcases hl with ⟨rfl, hrv⟩ | ⟨la, rfl, hla, hrv⟩
      · have HRV := Lib.hid (hrv.trans hst)
        clear hrv hst
        go_wp2_with (fail)
        go_ret
        exact ⟨by rw [HRV.out]; rfl, BEL.out⟩
      · rw [hst] at hrv
        have HRV := Lib.hid hrv
        clear hrv hst
        have e : pos = s.size := by omega
        have h5 : decide ((la : Int) < 0) = false := by simp
        by_cases h3 : pos = la + 1
        · have h4 : decide ((s.size : Int) > (la : Int) + 1) = false := by simp; omega
          go_wp2_with (fail)
          go_ret
          exact ⟨by rw [HRV.out, if_pos h3]; rfl, BEL.out⟩
        · have h4 : decide ((s.size : Int) > (la : Int) + 1) = true := by simp; omega
          go_wp2_with (fail)
          go_ret
          exact ⟨by rw [HRV.out, if_neg h3]; rfl, BEL.out⟩
end Go.Proofs.Ytjokghnlmaaejaa
