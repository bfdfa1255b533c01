import Derived.Test.YtchibinlcedjaaaS7
namespace Go.Proofs.Ytchibinlcedjaaa
open Go.RowKit
/-! ### DevAll: the law's own world in memory -/
/-- Block `k` is a whole row of elements of type `t`. -/
def Ty (w : World) (k : Nat) (t : TypeId) : Prop := ∃ cs, w.heap[k]? = some (.cells cs t (0, 0))
theorem Ty.bl {w : World} {k : Nat} {t : TypeId} {cs : List Value} (h : Bl w k t cs) : Ty w k t := ⟨_, h⟩
theorem Ty.own {w : World} {base g n cap size : Nat} {e : TypeId} {xs : List Value} (h : w.ownsRow base e size (.slice (some ⟨g, 0, none⟩) n cap) n xs) : Ty w g e := by
  obtain ⟨_, ⟨h, _⟩ | ⟨g', _, cur, h, _, hg, _⟩⟩ := h
  · cases h
  · injection h with h _ _
    injection h with h
    injection h with h
    subst h
    exact ⟨cur, hg⟩
theorem Ty.ne {w : World} {k j : Nat} {t s : TypeId} (h : Ty w k t) (h' : Ty w j s) (hts : t ≠ s) : k ≠ j := by
  obtain ⟨c, h⟩ := h
  obtain ⟨d, h'⟩ := h'
  intro e
  subst e
  rw [h] at h'
  injection h' with h'
  injection h' with _ h2
  exact hts h2
theorem own_ty {w : World} {base size n : Nat} {e t : TypeId} {v : Value} {xs : List Value} {k : Nat} (h : w.ownsRow base e size v n xs) (hk : Ty w k t) (ht : t ≠ e) : v.ownBlock ≠ some k := by
  obtain ⟨_, ⟨rfl, _⟩ | ⟨g, cap, cur, rfl, _, hg, _⟩⟩ := h
  · intro e; cases e
  · intro e1
    injection e1 with e1
    change g = k at e1
    subst e1
    obtain ⟨c, hk⟩ := hk
    rw [hk] at hg
    injection hg with hg
    injection hg with _ h2
    exact ht h2
/-- A row at block `b` of texts, each in a row of its own. -/
def RowsAt (w : World) (b c : Nat) (N : List (List UInt8)) : Prop :=
  ∃ cells, w.ownsRow 0 31 1 (.slice (some ⟨b, 0, none⟩) N.length c) N.length cells ∧ ∀ i (h : i < N.length), ∃ v, cells[i]? = some v ∧ w.ownsRow 0 5 1 v N[i].length (bv N[i])
theorem RowsAt.ty {w : World} {b c : Nat} {N : List (List UInt8)} (h : RowsAt w b c N) : Ty w b 31 := by
  obtain ⟨_, h, _⟩ := h
  exact Ty.own h
theorem RowsAt.fr {w w' : World} {b c : Nat} {N : List (List UInt8)} {S : List Nat} (h : RowsAt w b c N) (f : Fr S w w') (hb : b ∉ S) (hS : ∀ k ∈ S, ∃ t, Ty w k t ∧ t ≠ 5) : RowsAt w' b c N := by
  obtain ⟨cells, h1, h2⟩ := h
  refine ⟨cells, ownsRow_fr h1 f (fun k hk hm => hb (by injection hk with hk; change b = k at hk; subst hk; exact hm)), fun i hi => ?_⟩
  obtain ⟨v, h3, h4⟩ := h2 i hi
  refine ⟨v, h3, ownsRow_fr h4 f fun k hk hm => ?_⟩
  obtain ⟨t, ht, hne⟩ := hS k hm
  exact own_ty h4 ht hne hk
/-- One of its cells is laid anew. -/
theorem RowsAt.set {w : World} {b c : Nat} {N : List (List UInt8)} (h : RowsAt w b c N) (i : Nat) (v : Value) (l : List UInt8) (hv : w.ownsRow 0 5 1 v l.length (bv l)) : RowsAt (w.setCell ⟨b, i, none⟩ v) b c (N.set i l) := by
  have ht := h.ty
  obtain ⟨cells, h1, h2⟩ := h
  have f : Fr [b] w (w.setCell ⟨b, i, none⟩ v) := (Fr.refl [b] w).setCell (by simp) v
  have hcl : cells.length = N.length := by have := h1.1; omega
  refine ⟨cells.set i v, by rw [List.length_set]; exact (h1.stored i v).1, fun j hj => ?_⟩
  rw [List.length_set] at hj
  by_cases hij : i = j
  · subst hij
    refine ⟨v, by rw [List.getElem?_set_self (by omega)], ?_⟩
    rw [List.getElem_set_self]
    exact ownsRow_fr hv f fun k hk hm => by
      simp only [List.mem_cons, List.not_mem_nil, or_false] at hm
      subst hm
      exact own_ty hv ht (by decide) hk
  · obtain ⟨u, h3, h4⟩ := h2 j hj
    refine ⟨u, by rw [List.getElem?_set_ne hij]; exact h3, ?_⟩
    rw [List.getElem_set_ne hij]
    exact ownsRow_fr h4 f fun k hk hm => by
      simp only [List.mem_cons, List.not_mem_nil, or_false] at hm
      subst hm
      exact own_ty h4 ht (by decide) hk
theorem RowsAt.get {w : World} {b c : Nat} {N : List (List UInt8)} (h : RowsAt w b c N) (i : Nat) (hi : i < N.length) : ∃ v, w.cell? ⟨b, i, none⟩ = some v ∧ w.frozen? ⟨b, i, none⟩ = false ∧ w.ownsRow 0 5 1 v N[i].length (bv N[i]) := by
  obtain ⟨cells, h1, h2⟩ := h
  obtain ⟨v, h3, h4⟩ := h2 i hi
  exact ⟨v, by rw [h1.cellAt i (by omega)]; exact h3, h1.frozenAt i, h4⟩
structure WM where
  now : List (List UInt8)
  safe : List (List UInt8)
  loose : List Bool
  calls : Nat
  fuse : Int
def WM.Ok (m : WM) : Prop := m.safe.length = m.now.length ∧ m.loose.length = m.now.length ∧ (∀ x ∈ m.now, x.length = 64) ∧ (∀ x ∈ m.safe, x.length = 64) ∧ 1 ≤ m.now.length ∧ m.now.length ≤ 8
/-- At block `ww` stands the law's own world, its three rows at `nb`, `sb`, `lb`. -/
structure WAt (w : World) (ww nb sb lb nc sc lc : Nat) (m : WM) : Prop where
  head : Bl w ww 30 [.slice (some ⟨nb, 0, none⟩) m.now.length nc, .slice (some ⟨sb, 0, none⟩) m.safe.length sc, .slice (some ⟨lb, 0, none⟩) m.loose.length lc, .int .i64 (m.calls : Int), .int .i64 m.fuse]
  now : RowsAt w nb nc m.now
  safe : RowsAt w sb sc m.safe
  loose : w.ownsRow 0 4 1 (.slice (some ⟨lb, 0, none⟩) m.loose.length lc) m.loose.length (tv m.loose)
  ne : nb ≠ sb
  ok : m.Ok
theorem WAt.fr {w w' : World} {ww nb sb lb nc sc lc : Nat} {m : WM} {S : List Nat} (h : WAt w ww nb sb lb nc sc lc m) (f : Fr S w w') (h1 : ww ∉ S) (h2 : nb ∉ S) (h3 : sb ∉ S) (h4 : lb ∉ S) (hS : ∀ k ∈ S, ∃ t, Ty w k t ∧ t ≠ 5) : WAt w' ww nb sb lb nc sc lc m :=
  ⟨h.head.fr f h1, h.now.fr f h2 hS, h.safe.fr f h3 hS, ownsRow_fr h.loose f (fun k hk hm => h4 (by injection hk with hk; change lb = k at hk; subst hk; exact hm)), h.ne, h.ok⟩
theorem WAt.keep {w w' : World} {ww nb sb lb nc sc lc : Nat} {m : WM} (h : WAt w ww nb sb lb nc sc lc m) (f : Fr [] w w') : WAt w' ww nb sb lb nc sc lc m :=
  h.fr f (by simp) (by simp) (by simp) (by simp) (by simp)
theorem WAt.lt {w : World} {ww nb sb lb nc sc lc : Nat} {m : WM} (h : WAt w ww nb sb lb nc sc lc m) : ww < w.heap.size ∧ nb < w.heap.size ∧ sb < w.heap.size ∧ lb < w.heap.size := by
  refine ⟨h.head.lt, ?_, ?_, own_lt h.loose⟩
  · obtain ⟨_, h1, _⟩ := h.now; exact own_lt h1
  · obtain ⟨_, h1, _⟩ := h.safe; exact own_lt h1
theorem WAt.nes {w : World} {ww nb sb lb nc sc lc : Nat} {m : WM} (h : WAt w ww nb sb lb nc sc lc m) : ww ≠ nb ∧ ww ≠ sb ∧ ww ≠ lb ∧ lb ≠ nb ∧ lb ≠ sb :=
  ⟨(Ty.bl h.head).ne h.now.ty (by decide), (Ty.bl h.head).ne h.safe.ty (by decide), (Ty.bl h.head).ne (Ty.own h.loose) (by decide), (Ty.own h.loose).ne h.now.ty (by decide), (Ty.own h.loose).ne h.safe.ty (by decide)⟩
def WM.isDead (m : WM) : Bool := m.fuse == 0
theorem wdead_c (w : World) (ww nb sb lb nc sc lc : Nat) (m : WM) (h : WAt w ww nb sb lb nc sc lc m) : Calls Try.prog 16 #[.pointer (some ⟨ww, 0, none⟩)] w fun e w' => e = .returned (.bool m.isDead) ∧ w = w' := by
  have c4 : w.cell? ⟨ww, 4, none⟩ = some (.int .i64 m.fuse) := h.head.cell 4
  obtain ⟨q, hq⟩ : ∃ q, m.isDead = q := ⟨_, rfl⟩
  have hq' : (m.fuse == 0) = q := hq
  rw [hq]
  clear h
  go_enter Try.func16, Try.ntmps16
  go_wp2_with (fail)
  go_ret
  exact ⟨rfl, rfl⟩
def WM.next (m : WM) : WM := { m with calls := m.calls + 1, fuse := if 0 < m.fuse then m.fuse - 1 else m.fuse }
theorem next_c (w : World) (ww nb sb lb nc sc lc : Nat) (m : WM) (h : WAt w ww nb sb lb nc sc lc m) (hc : m.calls ≤ 1000000) (hf : -1 ≤ m.fuse) (hf2 : m.fuse ≤ 9223372036854775807) :
    Calls Try.prog 38 #[.pointer (some ⟨ww, 0, none⟩)] w fun e w' => e = .returned (.tuple #[]) ∧ WAt w' ww nb sb lb nc sc lc m.next ∧ Fr [ww] w w' := by
  have c3 : w.cell? ⟨ww, 3, none⟩ = some (.int .i64 (m.calls : Int)) := h.head.cell 3
  have c4 : w.cell? ⟨ww, 4, none⟩ = some (.int .i64 m.fuse) := h.head.cell 4
  have q3 := h.head.free 3
  have q4 := h.head.free 4
  have hnes := h.nes
  have H := Lib.hid h
  have hfin : ∀ (w' : World) (f : Int), Bl w' ww 30 ((([.slice (some ⟨nb, 0, none⟩) m.now.length nc, .slice (some ⟨sb, 0, none⟩) m.safe.length sc, .slice (some ⟨lb, 0, none⟩) m.loose.length lc, .int .i64 (m.calls : Int), .int .i64 m.fuse] : List Value).set 3 (.int .i64 ((m.calls : Int) + 1))).set 4 (.int .i64 f)) → Fr [ww] w w' → WAt w' ww nb sb lb nc sc lc { m with calls := m.calls + 1, fuse := f } := by
    intro w' f hb fr
    have hS : ∀ k ∈ [ww], ∃ t, Ty w k t ∧ t ≠ 5 := by
      intro k hk
      simp only [List.mem_cons, List.not_mem_nil, or_false] at hk
      subst hk
      exact ⟨30, Ty.bl h.head, by decide⟩
    refine ⟨?_, h.now.fr fr (by simp; omega) hS, h.safe.fr fr (by simp; omega) hS, ownsRow_fr h.loose fr (fun k hk hm => ?_), h.ne, h.ok⟩
    · refine cast (congrArg (Bl w' ww 30) ?_) hb
      simp
    · simp only [List.mem_cons, List.not_mem_nil, or_false] at hm
      injection hk with hk
      change lb = k at hk
      omega
  have HFIN := Lib.hid hfin
  clear h hfin
  by_cases hpos : 0 < m.fuse
  · go_enter Try.func38, Try.ntmps38
    go_wp2_with (fail)
    go_end0
    refine ⟨rfl, ?_, ((Fr.refl [ww] w).setCell (by simp) _).setCell (by simp) _⟩
    have := HFIN.out _ (m.fuse - 1) ((H.out.head.set 3 (.int .i64 ((m.calls : Int) + 1))).set 4 (.int .i64 (m.fuse - 1))) (((Fr.refl [ww] w).setCell (by simp) _).setCell (by simp) _)
    unfold WM.next
    rw [if_pos hpos]
    exact this
  · go_enter Try.func38, Try.ntmps38
    go_wp2_with (fail)
    go_end0
    refine ⟨rfl, ?_, (Fr.refl [ww] w).setCell (by simp) _⟩
    have := HFIN.out (w.setCell ⟨ww, 3, none⟩ (.int .i64 ((m.calls : Int) + 1))) m.fuse (H.out.head.set 3 (.int .i64 ((m.calls : Int) + 1))) ((Fr.refl [ww] w).setCell (by simp) _)
    unfold WM.next
    rw [if_neg (by omega)]
    exact this
end Go.Proofs.Ytchibinlcedjaaa
