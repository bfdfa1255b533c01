import Derived.Test.YtchibinlcedjaaaH2
import Derived.Test.YtchibinlcedjaaaF6
namespace Go.Proofs.Ytchibinlcedjaaa
open Go.RowKit
/-! ### DevAll: the law's world is built -/
def z64 : List UInt8 := List.replicate 64 0
def Own64 (w : World) (B : Nat) (v : Value) : Prop := w.ownsRow B 5 1 v 64 (bv z64)
/-- A row of `k` texts of 64 zeros, each in a row of its own. -/
def RowsV (w : World) (B : Nat) (v : Value) (k : Nat) : Prop := ∃ cells, w.ownsRow B 31 1 v k cells ∧ ∀ i, i < k → ∃ u, cells[i]? = some u ∧ Own64 w B u
/-- How far a round is: `nv`, `sv`, `lv` the rows at hand (of `kn`, `ks`, `kl` elements), `p`, `q`, `r` how much of what is to be appended next stands. -/
structure Build (w1 w : World) (B ww : Nat) (nv0 sv0 lv0 nv sv lv : Value) (kn ks kl p q r : Nat) (v35 v42 : Value) (h1 h2 h3 : Nat) : Prop where
  z : w1.heap.size ≤ w.heap.size
  lo : B ≤ w.heap.size
  base : Below B w1 w
  head : Bl w ww 30 [nv0, sv0, lv0, .int .i64 0, .int .i64 (-1)]
  rn : RowsV w B nv kn
  rs : RowsV w B sv ks
  rl : w.ownsRow B 4 1 lv kl (tv (List.replicate kl false))
  a1 : 1 ≤ p → Own64 w B v35
  a2 : 2 ≤ p → Bl w h1 31 [v35] ∧ nv.ownBlock ≠ some h1 ∧ sv.ownBlock ≠ some h1
  b1 : 1 ≤ q → Own64 w B v42
  b2 : 2 ≤ q → Bl w h2 31 [v42] ∧ nv.ownBlock ≠ some h2 ∧ sv.ownBlock ≠ some h2
  c1 : 1 ≤ r → Bl w h3 4 [.bool false] ∧ lv.ownBlock ≠ some h3
  ne : ∀ g, nv.ownBlock = some g → sv.ownBlock ≠ some g
theorem Own64.fr {w w' : World} {B : Nat} {v : Value} {S : List Nat} (h : Own64 w B v) (f : Fr S w w') (hS : ∀ k ∈ S, ∃ t, Ty w k t ∧ t ≠ 5) : Own64 w' B v :=
  ownsRow_fr h f fun k hk hm => by
    obtain ⟨t, ht, hne⟩ := hS k hm
    exact own_ty h ht hne hk
theorem RowsV.fr {w w' : World} {B : Nat} {v : Value} {k : Nat} {S : List Nat} (h : RowsV w B v k) (f : Fr S w w') (hv : ∀ g, v.ownBlock = some g → g ∉ S) (hS : ∀ k ∈ S, ∃ t, Ty w k t ∧ t ≠ 5) : RowsV w' B v k := by
  obtain ⟨cells, h1, h2⟩ := h
  refine ⟨cells, ownsRow_fr h1 f hv, fun i hi => ?_⟩
  obtain ⟨u, h3, h4⟩ := h2 i hi
  exact ⟨u, h3, h4.fr f hS⟩
theorem RowsV.lt {w : World} {B : Nat} {v : Value} {k g : Nat} (h : RowsV w B v k) (hg : v.ownBlock = some g) : g < w.heap.size := by
  obtain ⟨cells, h1, _⟩ := h
  exact (h1.lt g hg).2
theorem RowsV.ty {w : World} {B : Nat} {v : Value} {k g : Nat} (h : RowsV w B v k) (hg : v.ownBlock = some g) : Ty w g 31 := by
  obtain ⟨cells, h1, _⟩ := h
  obtain ⟨_, ⟨rfl, _⟩ | ⟨g', cap, cur, rfl, _, hh, _⟩⟩ := h1
  · cases hg
  · injection hg with hg
    change g' = g at hg
    subst hg
    exact ⟨cur, hh⟩
section
variable {w1 w w' : World} {B ww : Nat} {nv0 sv0 lv0 nv sv lv : Value} {kn ks kl p q r : Nat} {v35 v42 : Value} {h1 h2 h3 : Nat}
theorem Build.keep (h : Build w1 w B ww nv0 sv0 lv0 nv sv lv kn ks kl p q r v35 v42 h1 h2 h3) (f : Fr [] w w') : Build w1 w' B ww nv0 sv0 lv0 nv sv lv kn ks kl p q r v35 v42 h1 h2 h3 :=
  ⟨Nat.le_trans h.z f.size, Nat.le_trans h.lo f.size, h.base.trans (f.below h.lo (by simp)), h.head.fr f (by simp), h.rn.fr f (by simp) (by simp), h.rs.fr f (by simp) (by simp), ownsRow_fr h.rl f (by simp),
   fun g => (h.a1 g).fr f (by simp), fun g => ⟨(h.a2 g).1.fr f (by simp), (h.a2 g).2⟩, fun g => (h.b1 g).fr f (by simp), fun g => ⟨(h.b2 g).1.fr f (by simp), (h.b2 g).2⟩, fun g => ⟨(h.c1 g).1.fr f (by simp), (h.c1 g).2⟩, h.ne⟩
theorem own64_new (w : World) (B : Nat) (hB : B ≤ w.heap.size) : Own64 (w.alloc (.cells (bv z64).toArray 5)) B (.slice (some ⟨w.heap.size, 0, none⟩) 64 64) := by
  refine ⟨by simp [bv, z64], .inr ⟨w.heap.size, 64, _, rfl, hB, heap_alloc_new w _, by omega, by simp [maxLen], by simp [bv, z64], ?_⟩⟩
  rw [List.take_of_length_le (by simp [bv, z64])]
theorem Build.s7 (h : Build w1 w B ww nv0 sv0 lv0 nv sv lv kn ks kl 0 q r v35 v42 h1 h2 h3) : Build w1 (w.alloc (.cells (bv z64).toArray 5)) B ww nv0 sv0 lv0 nv sv lv kn ks kl 1 q r (.slice (some ⟨w.heap.size, 0, none⟩) 64 64) v42 h1 h2 h3 := by
  have g := h.keep ((Fr.refl [] w).alloc (.cells (bv z64).toArray 5))
  exact ⟨g.z, g.lo, g.base, g.head, g.rn, g.rs, g.rl, fun _ => own64_new w B h.lo, fun e => by omega, g.b1, g.b2, g.c1, g.ne⟩
theorem Build.s14 (h : Build w1 w B ww nv0 sv0 lv0 nv sv lv kn ks kl p 0 r v35 v42 h1 h2 h3) : Build w1 (w.alloc (.cells (bv z64).toArray 5)) B ww nv0 sv0 lv0 nv sv lv kn ks kl p 1 r v35 (.slice (some ⟨w.heap.size, 0, none⟩) 64 64) h1 h2 h3 := by
  have g := h.keep ((Fr.refl [] w).alloc (.cells (bv z64).toArray 5))
  exact ⟨g.z, g.lo, g.base, g.head, g.rn, g.rs, g.rl, g.a1, g.a2, fun _ => own64_new w B h.lo, fun e => by omega, g.c1, g.ne⟩
theorem Build.fresh (h : Build w1 w B ww nv0 sv0 lv0 nv sv lv kn ks kl p q r v35 v42 h1 h2 h3) : nv.ownBlock ≠ some w.heap.size ∧ sv.ownBlock ≠ some w.heap.size ∧ lv.ownBlock ≠ some w.heap.size := by
  refine ⟨fun e => ?_, fun e => ?_, fun e => ?_⟩
  · have := h.rn.lt e; omega
  · have := h.rs.lt e; omega
  · have := (h.rl.lt _ e).2; omega
theorem Build.s8 (h : Build w1 w B ww nv0 sv0 lv0 nv sv lv kn ks kl 1 q r v35 v42 h1 h2 h3) : Build w1 (w.alloc (.cells #[v35] 31)) B ww nv0 sv0 lv0 nv sv lv kn ks kl 2 q r v35 v42 w.heap.size h2 h3 := by
  have g := h.keep ((Fr.refl [] w).alloc (.cells #[v35] 31))
  have f := h.fresh
  exact ⟨g.z, g.lo, g.base, g.head, g.rn, g.rs, g.rl, fun _ => g.a1 (by omega), fun _ => ⟨Bl.new w 31 [v35], f.1, f.2.1⟩, g.b1, g.b2, g.c1, g.ne⟩
theorem Build.s15 (h : Build w1 w B ww nv0 sv0 lv0 nv sv lv kn ks kl p 1 r v35 v42 h1 h2 h3) : Build w1 (w.alloc (.cells #[v42] 31)) B ww nv0 sv0 lv0 nv sv lv kn ks kl p 2 r v35 v42 h1 w.heap.size h3 := by
  have g := h.keep ((Fr.refl [] w).alloc (.cells #[v42] 31))
  have f := h.fresh
  exact ⟨g.z, g.lo, g.base, g.head, g.rn, g.rs, g.rl, g.a1, g.a2, fun _ => g.b1 (by omega), fun _ => ⟨Bl.new w 31 [v42], f.1, f.2.1⟩, g.c1, g.ne⟩
theorem Build.s21 (h : Build w1 w B ww nv0 sv0 lv0 nv sv lv kn ks kl p q 0 v35 v42 h1 h2 h3) : Build w1 (w.alloc (.cells #[.bool false] 4)) B ww nv0 sv0 lv0 nv sv lv kn ks kl p q 1 v35 v42 h1 h2 w.heap.size := by
  have g := h.keep ((Fr.refl [] w).alloc (.cells #[.bool false] 4))
  have f := h.fresh
  exact ⟨g.z, g.lo, g.base, g.head, g.rn, g.rs, g.rl, g.a1, g.a2, g.b1, g.b2, fun _ => ⟨Bl.new w 4 [.bool false], f.2.2⟩, g.ne⟩
end
end Go.Proofs.Ytchibinlcedjaaa
