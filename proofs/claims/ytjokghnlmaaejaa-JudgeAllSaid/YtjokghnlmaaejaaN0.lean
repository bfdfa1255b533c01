import Derived.Test.YtjokghnlmaaejaaM2
namespace Go.Proofs.Ytjokghnlmaaejaa
open Go.RowKit
/-! ### the loops that set -/
section
variable {α : Type} (key : α → ByteArray) (k : ByteArray) (y : α)
def setStep (st : Bool × List α) (x : α) : Bool × List α :=
  (st.1 || !lessB (key x) k, (if (!st.1 && !lessB (key x) k) then st.2 ++ [y] else st.2) ++ (if key x = k then [] else [x]))
def setFold (d : Bool) (l : List α) : Bool × List α := l.foldl (setStep key k y) (d, [])
theorem setStep_eq (D : Bool) (OUT : List α) (x : α) : setStep key k y (D, OUT) x = (D || !lessB (key x) k, (if (!D && !lessB (key x) k) then OUT ++ [y] else OUT) ++ (if key x = k then [] else [x])) := rfl
theorem setFold_succ (d : Bool) (l : List α) {j : Nat} (h : j < l.length) : setFold key k y d (l.take (j + 1)) = setStep key k y (setFold key k y d (l.take j)) l[j] := by
  unfold setFold
  rw [List.take_succ_eq_append_getElem h, List.foldl_append]
  rfl
theorem setFold_len (d : Bool) (l : List α) (j : Nat) : (setFold key k y d (l.take j)).2.length ≤ 2 * j := by
  have h1 : ∀ (l : List α) (st : Bool × List α), (l.foldl (setStep key k y) st).2.length ≤ st.2.length + 2 * l.length := by
    intro l
    induction l with
    | nil => intro st; simp
    | cons x l ih =>
      intro st
      have h2 := ih (setStep key k y st x)
      have h3 : (setStep key k y st x).2.length ≤ st.2.length + 2 := by
        unfold setStep
        split <;> split <;> simp
      simp only [List.foldl_cons, List.length_cons]
      omega
  have h4 := h1 (l.take j) (d, [])
  have h5 : (l.take j).length ≤ j := by rw [List.length_take]; omega
  unfold setFold
  simp only [List.length_nil] at h4
  omega
end
def refSetN (r : RR) : RR := r
def refSetD (_ : RR) : Bool := false
def refSetF (l : List RR) (r : RR) : List RR := if (setFold RR.k r.k (refSetN r) (refSetD r) l).1 then (setFold RR.k r.k (refSetN r) (refSetD r) l).2 else (setFold RR.k r.k (refSetN r) (refSetD r) l).2 ++ [refSetN r]
def lawSetN (r : RR) : PR := ⟨r.k, r.v⟩
def lawSetD (r : RR) : Bool := r.gone
def lawSetF (l : List PR) (r : RR) : List PR := if (setFold PR.k r.k (lawSetN r) (lawSetD r) l).1 then (setFold PR.k r.k (lawSetN r) (lawSetD r) l).2 else (setFold PR.k r.k (lawSetN r) (lawSetD r) l).2 ++ [lawSetN r]
end Go.Proofs.Ytjokghnlmaaejaa
