import Derived.Test.YtjokghnlmaaejaaD1
import Derived.Lib.Bytealg
import Derived.Laws.Externs
namespace Go.Proofs.Ytjokghnlmaaejaa
open Go.RowKit
/-! ### the data -/
structure Raw where
  kind : Int
  n : Int
  s : ByteArray
  deriving DecidableEq
structure PR where
  k : ByteArray
  v : Raw
  deriving DecidableEq
structure RR where
  k : ByteArray
  gone : Bool
  v : Raw
  deriving DecidableEq
def raw0 : Raw := ⟨0, 0, ByteArray.empty⟩
def rawCells (v : Raw) : List Value := [.int .i64 v.kind, .int .i64 v.n, .string v.s]
def prCells (p : PR) : List Value := [.string p.k, .int .i64 p.v.kind, .int .i64 p.v.n, .string p.v.s]
def rrCells (r : RR) : List Value := [.string r.k, .bool r.gone, .int .i64 r.v.kind, .int .i64 r.v.n, .string r.v.s]
def rawV (v : Raw) : Value := .agg #[.int .i64 v.kind, .int .i64 v.n, .string v.s]
def prV (p : PR) : Value := .agg #[.string p.k, .int .i64 p.v.kind, .int .i64 p.v.n, .string p.v.s]
def rrV (r : RR) : Value := .agg #[.string r.k, .bool r.gone, .int .i64 r.v.kind, .int .i64 r.v.n, .string r.v.s]
def prs (l : List PR) : List Value := l.flatMap prCells
def rrs (l : List RR) : List Value := l.flatMap rrCells
theorem prs_len (l : List PR) : (prs l).length = l.length * 4 := by
  induction l with
  | nil => rfl
  | cons a l ih => simp only [prs, List.flatMap_cons, List.length_append, List.length_cons] at *; rw [ih]; simp [prCells]; omega
theorem rrs_len (l : List RR) : (rrs l).length = l.length * 5 := by
  induction l with
  | nil => rfl
  | cons a l ih => simp only [rrs, List.flatMap_cons, List.length_append, List.length_cons] at *; rw [ih]; simp [rrCells]; omega
theorem prs_app (a b : List PR) : prs (a ++ b) = prs a ++ prs b := by simp [prs]
theorem rrs_app (a b : List RR) : rrs (a ++ b) = rrs a ++ rrs b := by simp [rrs]
theorem prs_one (l : List PR) : ∀ u ∈ prs l, u.oneCell' = true := by
  intro u hu
  simp only [prs, List.mem_flatMap] at hu
  obtain ⟨p, _, hu⟩ := hu
  simp [prCells] at hu
  rcases hu with rfl | rfl | rfl | rfl <;> rfl
theorem rrs_one (l : List RR) : ∀ u ∈ rrs l, u.oneCell' = true := by
  intro u hu
  simp only [rrs, List.mem_flatMap] at hu
  obtain ⟨p, _, hu⟩ := hu
  simp [rrCells] at hu
  rcases hu with rfl | rfl | rfl | rfl | rfl <;> rfl
theorem prs_get : ∀ (l : List PR) (i : Nat) (h : i < l.length), (prs l)[i * 4]? = some (.string l[i].k) ∧ (prs l)[i * 4 + 1]? = some (.int .i64 l[i].v.kind) ∧ (prs l)[i * 4 + 2]? = some (.int .i64 l[i].v.n) ∧ (prs l)[i * 4 + 3]? = some (.string l[i].v.s)
  | o :: l, 0, _ => ⟨rfl, rfl, rfl, rfl⟩
  | o :: l, i + 1, h => by
    have := prs_get l i (by simpa using h)
    have e : prs (o :: l) = prCells o ++ prs l := by simp [prs]
    have el : (prCells o).length = 4 := rfl
    rw [e, show (i + 1) * 4 = 4 + i * 4 by omega, List.getElem?_append_right (by omega), List.getElem?_append_right (by omega), List.getElem?_append_right (by omega), List.getElem?_append_right (by omega), el]
    simp only [List.getElem_cons_succ]
    rw [show 4 + i * 4 - 4 = i * 4 by omega, show 4 + i * 4 + 1 - 4 = i * 4 + 1 by omega, show 4 + i * 4 + 2 - 4 = i * 4 + 2 by omega, show 4 + i * 4 + 3 - 4 = i * 4 + 3 by omega]
    exact this
theorem rrs_get : ∀ (l : List RR) (i : Nat) (h : i < l.length), (rrs l)[i * 5]? = some (.string l[i].k) ∧ (rrs l)[i * 5 + 1]? = some (.bool l[i].gone) ∧ (rrs l)[i * 5 + 2]? = some (.int .i64 l[i].v.kind) ∧ (rrs l)[i * 5 + 3]? = some (.int .i64 l[i].v.n) ∧ (rrs l)[i * 5 + 4]? = some (.string l[i].v.s)
  | o :: l, 0, _ => ⟨rfl, rfl, rfl, rfl, rfl⟩
  | o :: l, i + 1, h => by
    have := rrs_get l i (by simpa using h)
    have e : rrs (o :: l) = rrCells o ++ rrs l := by simp [rrs]
    have el : (rrCells o).length = 5 := rfl
    rw [e, show (i + 1) * 5 = 5 + i * 5 by omega, List.getElem?_append_right (by omega), List.getElem?_append_right (by omega), List.getElem?_append_right (by omega), List.getElem?_append_right (by omega), List.getElem?_append_right (by omega), el]
    simp only [List.getElem_cons_succ]
    rw [show 5 + i * 5 - 5 = i * 5 by omega, show 5 + i * 5 + 1 - 5 = i * 5 + 1 by omega, show 5 + i * 5 + 2 - 5 = i * 5 + 2 by omega, show 5 + i * 5 + 3 - 5 = i * 5 + 3 by omega, show 5 + i * 5 + 4 - 5 = i * 5 + 4 by omega]
    exact this
/-- A slice of pairs; of records. -/
def Sp (w : World) (B : Nat) (v : Value) (l : List PR) : Prop := Sv w B 4 v l.length (prs l)
def Sr (w : World) (B : Nat) (v : Value) (l : List RR) : Prop := Sv w B 5 v l.length (rrs l)
theorem Sp.at_ {w : World} {B : Nat} {a : Option Addr} {m cap : Nat} {l : List PR} (h : Sp w B (.slice a m cap) l) (k : Nat) (hk : k < l.length) :
    ∃ b off, a = some ⟨b, off, none⟩ ∧ b < B ∧ w.cell? ⟨b, off + k * 4, none⟩ = some (.string l[k].k) ∧ w.cell? ⟨b, off + k * 4 + 1, none⟩ = some (.int .i64 l[k].v.kind) ∧ w.cell? ⟨b, off + k * 4 + 2, none⟩ = some (.int .i64 l[k].v.n) ∧ w.cell? ⟨b, off + k * 4 + 3, none⟩ = some (.string l[k].v.s) := by
  have hl := prs_len l
  obtain ⟨b, off, e, hb, hc⟩ := Sv.at_ h (by omega)
  obtain ⟨g0, g1, g2, g3⟩ := prs_get l k hk
  have g : ∀ (i : Nat) (u : Value), (prs l)[i]? = some u → w.cell? ⟨b, off + i, none⟩ = some u := by
    intro i u hi
    obtain ⟨h1, h2⟩ := List.getElem?_eq_some_iff.1 hi
    rw [hc i h1, h2]
  refine ⟨b, off, e, hb, g _ _ g0, ?_, ?_, ?_⟩
  · rw [Nat.add_assoc]; exact g _ _ g1
  · rw [Nat.add_assoc]; exact g _ _ g2
  · rw [Nat.add_assoc]; exact g _ _ g3
theorem Sr.at_ {w : World} {B : Nat} {a : Option Addr} {m cap : Nat} {l : List RR} (h : Sr w B (.slice a m cap) l) (k : Nat) (hk : k < l.length) :
    ∃ b off, a = some ⟨b, off, none⟩ ∧ b < B ∧ w.cell? ⟨b, off + k * 5, none⟩ = some (.string l[k].k) ∧ w.cell? ⟨b, off + k * 5 + 1, none⟩ = some (.bool l[k].gone) ∧ w.cell? ⟨b, off + k * 5 + 2, none⟩ = some (.int .i64 l[k].v.kind) ∧ w.cell? ⟨b, off + k * 5 + 3, none⟩ = some (.int .i64 l[k].v.n) ∧ w.cell? ⟨b, off + k * 5 + 4, none⟩ = some (.string l[k].v.s) := by
  have hl := rrs_len l
  obtain ⟨b, off, e, hb, hc⟩ := Sv.at_ h (by omega)
  obtain ⟨g0, g1, g2, g3, g4⟩ := rrs_get l k hk
  have g : ∀ (i : Nat) (u : Value), (rrs l)[i]? = some u → w.cell? ⟨b, off + i, none⟩ = some u := by
    intro i u hi
    obtain ⟨h1, h2⟩ := List.getElem?_eq_some_iff.1 hi
    rw [hc i h1, h2]
  refine ⟨b, off, e, hb, g _ _ g0, ?_, ?_, ?_, ?_⟩
  · rw [Nat.add_assoc]; exact g _ _ g1
  · rw [Nat.add_assoc]; exact g _ _ g2
  · rw [Nat.add_assoc]; exact g _ _ g3
  · rw [Nat.add_assoc]; exact g _ _ g4

/-! ### key.May, Cut of a text, Compare -/
def mayKey (k : ByteArray) : Bool := !k.toList.isEmpty && decide ((k.size : Int) ≤ 16)
theorem key_c (w : World) (k : ByteArray) : Calls Try.prog 37 #[.string k] w fun e w' => e = .returned (.bool (mayKey k)) ∧ w = w' := by
  go_enter Try.func37, Try.ntmps37
  by_cases h : k.toList = []
  · go_wp2_with (fail)
    go_ret
    exact ⟨by simp [mayKey, h], rfl⟩
  · by_cases h2 : (k.size : Int) ≤ 16
    · go_wp2_with (fail)
      go_ret
      exact ⟨by simp [mayKey, h2], rfl⟩
    · go_wp2_with (fail)
      go_ret
      exact ⟨by simp [mayKey]; omega, rfl⟩
def cutS (s : ByteArray) (n : Nat) : ByteArray := if n < s.size then s.extract 0 n else s
theorem cutS_c (w : World) (s : ByteArray) (n : Nat) : Calls Try.prog 10 #[.string s, .int .i64 (n : Int)] w fun e w' => e = .returned (.string (cutS s n)) ∧ w = w' := by
  go_enter Try.func10, Try.ntmps10
  by_cases h : n < s.size
  · have h1 : (n : Int) < (s.size : Int) := by omega
    go_wp2_with (fail)
    go_ret
    exact ⟨by simp [cutS, h], rfl⟩
  · have h1 : ¬ (n : Int) < (s.size : Int) := by omega
    go_wp2_with (fail)
    go_ret
    exact ⟨by simp [cutS, h], rfl⟩
def cmpS (a b : ByteArray) : Int := Lib.compareBytes a.data.toList b.data.toList
theorem run45 (w : World) (a b : ByteArray) : (callFunc 45 #[.string a, .string b]).run Try.prog w = .ok (.value (.int .i64 (cmpS a b))) w := by
  have h := Go.run_callFunc_extern (e := Extern.BytealgCompare.compare) Try.func45 (by kernel_rfl) (by kernel_rfl) (by kernel_rfl) (by kernel_rfl) #[.string a, .string b] w
  rw [Lib.run_compareString] at h
  exact h
theorem cmp40_c (w : World) (a b : ByteArray) : Calls Try.prog 40 #[.string a, .string b] w fun e w' => e = .returned (.int .i64 (cmpS a b)) ∧ w = w' := by
  have H := run45 w a b
  go_enter Try.func40, Try.ntmps40
  go_wp2_with (fail)
  go_ret
  exact ⟨rfl, rfl⟩
theorem cmp_c (w : World) (a b : ByteArray) : Calls Try.prog 33 #[.string a, .string b] w fun e w' => e = .returned (.int .i64 (cmpS a b)) ∧ w = w' := by
  have H := cmp40_c w a b
  go_enter Try.func33, Try.ntmps33
  go_wp2_with (go_at_call 40; refine H.mono ?_; rintro e w' ⟨rfl, rfl⟩)
  go_ret
  exact ⟨rfl, rfl⟩
theorem lam_c (w : World) (p : PR) (b : ByteArray) : Calls Try.prog 32 #[prV p, .string b] w fun e w' => e = .returned (.int .i64 (cmpS p.k b)) ∧ Below w.heap.size w w' := by
  unfold prV
  have h0 : (w.alloc (.cells #[.string p.k, .int .i64 p.v.kind, .int .i64 p.v.n, .string p.v.s] 48)).cell? ⟨w.heap.size, 0, none⟩ = some (.string p.k) := (Bl.new w 48 [.string p.k, .int .i64 p.v.kind, .int .i64 p.v.n, .string p.v.s]).cell 0
  go_enter Try.func32, Try.ntmps32
  go_wp2_with (go_at_call 33; refine (cmp_c _ _ _).mono ?_; rintro e w' ⟨rfl, rfl⟩)
  go_ret
  exact ⟨rfl, (Below.refl _ _).alloc (Nat.le_refl _) _⟩
end Go.Proofs.Ytjokghnlmaaejaa
