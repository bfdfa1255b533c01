import Derived.Test.YtbkjiinnojnkhaaX6
import Derived.Deep.RegionWith
namespace Go.Proofs.Ytbkjiinnojnkhaa
open Go.RowKit
/-- What each row that is told is. -/
def RowOk (at_ : Int) (free : List Bool) (k : Nat) (s : Int × Int) : Prop :=
  ∃ i m : Nat, s = (at_ + (i : Int), (m : Int)) ∧ 1 ≤ m ∧ i + m ≤ k ∧ ∀ t, t < m → free[i + t]? = some true
theorem RowOk.mono {at_ : Int} {free : List Bool} {k k' : Nat} {s : Int × Int} (h : RowOk at_ free k s) (hk : k ≤ k') : RowOk at_ free k' s := by
  obtain ⟨i, m, h1, h2, h3, h4⟩ := h
  exact ⟨i, m, h1, h2, by omega, h4⟩
theorem st_cur (at_ : Int) (free : List Bool) : ∀ k, (∀ t, k - (st at_ free k).2 ≤ t → t < k → free[t]? = some true) ∧ (k ≠ (st at_ free k).2 → free[k - (st at_ free k).2 - 1]? ≠ some true)
  | 0 => by simp [st]
  | k + 1 => by
    have ih := st_cur at_ free k
    have hle := st_le at_ free k
    rw [st]
    split
    · next h =>
      simp only
      refine ⟨fun t h1 h2 => ?_, fun h1 => ?_⟩
      · by_cases e : t = k
        · subst e; exact h
        · exact ih.1 t (by omega) (by omega)
      · rw [show k + 1 - ((st at_ free k).2 + 1) - 1 = k - (st at_ free k).2 - 1 by omega]
        exact ih.2 (by omega)
    · next h =>
      split
      · simp only
        exact ⟨fun t h1 h2 => by omega, fun _ => by simpa using h⟩
      · simp only
        exact ⟨fun t h1 h2 => by omega, fun _ => by simpa using h⟩
theorem st_rows (at_ : Int) (free : List Bool) : ∀ k, ∀ s ∈ (st at_ free k).1, RowOk at_ free k s
  | 0 => by simp [st]
  | k + 1 => by
    have ih := st_rows at_ free k
    have hc := (st_cur at_ free k).1
    have hle := st_le at_ free k
    intro s hs
    rw [st] at hs
    split at hs
    · exact (ih s hs).mono (by omega)
    · split at hs
      · exact (ih s hs).mono (by omega)
      · next h =>
        simp only [List.mem_append, List.mem_singleton] at hs
        rcases hs with hs | rfl
        · exact (ih s hs).mono (by omega)
        · exact ⟨k - (st at_ free k).2, (st at_ free k).2, by congr 1; omega, by omega, by omega, fun t ht => hc _ (by omega) (by omega)⟩
theorem spansK_rows (at_ : Int) (free : List Bool) (k : Nat) : ∀ s ∈ spansK at_ free k, RowOk at_ free k s := by
  intro s hs
  have hc := (st_cur at_ free k).1
  have hle := st_le at_ free k
  unfold spansK at hs
  rw [List.mem_append] at hs
  rcases hs with hs | hs
  · exact st_rows at_ free k s hs
  · split at hs
    · cases hs
    · simp only [List.mem_singleton] at hs
      subst hs
      exact ⟨k - (st at_ free k).2, (st at_ free k).2, by congr 1; omega, by omega, by omega, fun t ht => hc _ (by omega) (by omega)⟩
theorem spans_rows (at_ : Int) (free : List Bool) : ∀ s ∈ spans at_ free, RowOk at_ free free.length s := spansK_rows at_ free _
/-- The lengths together. -/
def tot : List (Int × Int) → Int
  | [] => 0
  | s :: l => s.2 + tot l
theorem tot_app : ∀ (a b : List (Int × Int)), tot (a ++ b) = tot a + tot b
  | [], b => by simp [tot]
  | s :: a, b => by simp only [List.cons_append, tot, tot_app a b]; omega
theorem tot_st (at_ : Int) (free : List Bool) : ∀ k, k ≤ free.length → tot (st at_ free k).1 + ((st at_ free k).2 : Int) = ((free.take k).count true : Nat)
  | 0, _ => by simp [st, tot]
  | k + 1, hk => by
    have ih := tot_st at_ free k (by omega)
    rw [List.take_succ_eq_append_getElem (by omega : k < free.length), List.count_append]
    rw [st, List.getElem?_eq_getElem (by omega : k < free.length)]
    cases hf : free[k]
    · simp only [Option.some.injEq, Bool.false_eq_true, if_false]
      split
      · next h => simp [h] at ih ⊢; omega
      · simp only [tot_app, tot]; simp; omega
    · simp; omega
theorem tot_spans (at_ : Int) (free : List Bool) : tot (spans at_ free) = (free.count true : Nat) := by
  have h := tot_st at_ free free.length (Nat.le_refl _)
  rw [List.take_length] at h
  unfold spans spansK
  rw [tot_app]
  split
  · next e => rw [e] at h; simp [tot]; omega
  · simp [tot]; omega
theorem tot_take (l : List (Int × Int)) (h : ∀ s ∈ l, 0 ≤ s.2) : ∀ k, 0 ≤ tot (l.take k) ∧ tot (l.take k) ≤ tot l := by
  induction l with
  | nil => intro k; simp [tot]
  | cons s l ih =>
    intro k
    have h1 := h s (by simp)
    cases k with
    | zero =>
      have := ih (fun s hs => h s (by simp [hs])) 0
      simp [tot] at *
      omega
    | succ k =>
      have := ih (fun s hs => h s (by simp [hs])) k
      simp [tot] at *
      omega
theorem row_at {w : World} {base : Nat} {g n cap : Nat} {S : List (Int × Int)} (own : w.ownsRow base 30 2 (.slice (some ⟨g, 0, none⟩) n cap) n (spCells S)) (hn : S.length = n) (k : Nat) (hk : k < S.length) :
    w.cell? ⟨g, k * 2, none⟩ = some (.int .i64 S[k].1) ∧ w.cell? ⟨g, k * 2 + 1, none⟩ = some (.int .i64 S[k].2) := by
  have hsplit : S = S.take k ++ S[k] :: S.drop (k + 1) := by
    conv => lhs; rw [← List.take_append_drop k S, List.drop_eq_getElem_cons hk]
  have hc : spCells S = spCells (S.take k) ++ ([.int .i64 S[k].1, .int .i64 S[k].2] ++ spCells (S.drop (k + 1))) := by
    conv => lhs; rw [hsplit, spCells_app]
    rfl
  have hl := spCells_len (S.take k)
  rw [List.length_take, Nat.min_eq_left (by omega)] at hl
  constructor
  · rw [own.cellAt _ (by omega), hc, List.getElem?_append_right (by omega), hl, Nat.sub_self]
    rfl
  · rw [own.cellAt _ (by omega), hc, List.getElem?_append_right (by omega), hl, show k * 2 + 1 - k * 2 = 1 by omega]
    rfl
set_option maxHeartbeats 1000000 in
theorem free_c (w : World) (p : Nat) (v : Value) (at_ : Int) (free : List Bool) (h : RoomR w p v at_ free) :
    Calls Try.prog 16 #[.pointer (some ⟨p, 0, none⟩)] w fun e w' => e = .returned (.int .i64 ((free.count true : Nat) : Int)) ∧ Below w.heap.size w w' := by
  have HS := Lib.hid (spans_c w p v at_ free h)
  have hlen := h.len
  clear h
  have htot := tot_spans at_ free
  have hrows := spans_rows at_ free
  have hcnt : free.count true ≤ free.length := List.count_le_length
  rw [← htot]
  have hSl : (spans at_ free).length ≤ 2048 := Nat.le_trans (spansK_le at_ free _) hlen
  generalize spans at_ free = S at *
  have hpos : ∀ s ∈ S, 0 ≤ s.2 := fun s hs => by
    obtain ⟨i, m, rfl, h1, _⟩ := hrows s hs
    simp
  have hts := tot_take S hpos
  have hb2 : ∀ s ∈ S, s.2 ≤ 2048 := fun s hs => by
    obtain ⟨i, m, rfl, h1, h2, _⟩ := hrows s hs
    simp; omega
  have HR := Lib.hid hrows
  have HTS := Lib.hid hts
  have HPOS := Lib.hid hpos
  have HB2 := Lib.hid hb2
  clear hrows hpos hts hb2
  go_enter Try.func16, Try.ntmps16
  go_wp2_with (fail)
  refine HS.out.mono ?_
  rintro e w1 ⟨⟨v', rfl, own⟩, bel⟩
  obtain ⟨a, cap, rfl⟩ := own_form own
  have OWN := Lib.hid own
  have BEL := Lib.hid bel
  have hz1 := bel.size
  clear own bel HS
  go_wp2_with (fail)
  go_loopg [3, 5, 9] S.length (fun q z _ i wr => ∃ k : Nat, k + q = S.length ∧ i = .int .i64 (k : Int) ∧ z = .int .i64 (tot (S.take k)) ∧ Fr [] w1 wr)
  case atStart => exact ⟨0, by omega, rfl, by simp [tot], Fr.refl _ _⟩
  case round =>
    obtain ⟨k, hk, rfl, rfl, fr⟩ := hrel
    by_cases hlt : k < S.length
    · have own := ownsRow_fr OWN.out fr (by simp)
      have own' := own
      obtain ⟨_, ⟨_, h0⟩ | ⟨g, cap3, cur, e1, hg, _⟩⟩ := own'
      · omega
      injection e1 with e1 e2 e3
      subst e1 e3
      obtain ⟨c1, c2⟩ := row_at own rfl k hlt
      have hts0 := HTS.out k
      have hts1 := HTS.out (k + 1)
      have hS : tot (S.take (k + 1)) = tot (S.take k) + S[k].2 := by
        rw [List.take_succ_eq_append_getElem hlt, tot_app]
        simp [tot]
      have i4 : (k : Int) < (S.length : Int) := by omega
      have b1 := HPOS.out _ (List.getElem_mem hlt)
      have b2 := HB2.out _ (List.getElem_mem hlt)
      generalize S[k].1 = x at *
      generalize S[k].2 = n at *
      generalize hT1 : tot (S.take (k + 1)) = T1 at *
      generalize hT0 : tot (S.take k) = T0 at *
      have HT1 := Lib.hid hT1
      have HT0 := Lib.hid hT0
      have FR := Lib.hid fr
      clear own fr hT1 hT0
      go_wp2_with (fail)
      go_roundg (S.length - (k + 1))
      case measure => omega
      case rel => exact ⟨k + 1, by omega, by go_num, by rw [HT1.out, hS], FR.out.alloc _⟩
    · have e : k = S.length := by omega
      subst e
      rw [List.take_length]
      have FR := Lib.hid fr
      clear fr
      go_wp2_with (fail)
      go_ret
      exact ⟨rfl, BEL.out.trans (FR.out.nil.mono hz1)⟩
end Go.Proofs.Ytbkjiinnojnkhaa
