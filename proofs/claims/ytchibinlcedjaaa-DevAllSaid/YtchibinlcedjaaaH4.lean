import Derived.Test.YtchibinlcedjaaaH3
namespace Go.Proofs.Ytchibinlcedjaaa
open Go.RowKit
def bl_ (v : Value) : List Nat := match v.ownBlock with | some g => [g] | none => []
theorem mem_bl {v : Value} {k : Nat} : k ∈ bl_ v ↔ v.ownBlock = some k := by
  unfold bl_
  cases h : v.ownBlock with
  | none => simp
  | some g => simp; exact eq_comm
theorem own_low {w : World} {base : Nat} {e : TypeId} {size : Nat} {v : Value} {n : Nat} {xs : List Value} {g : Nat} (h : w.ownsRow base e size v n xs) (hg : v.ownBlock = some g) : base ≤ g := by
  obtain ⟨_, ⟨rfl, _⟩ | ⟨g', cap, cur, rfl, hb, _⟩⟩ := h
  · cases hg
  · injection hg with hg
    change g' = g at hg
    omega
section
variable {w1 w w' : World} {B ww : Nat} {nv0 sv0 lv0 nv sv lv v' : Value} {kn ks kl p q r : Nat} {v35 v42 : Value} {h1 h2 h3 : Nat}
theorem Build.s9 (h : Build w1 w B ww nv0 sv0 lv0 nv sv lv kn ks kl 2 q r v35 v42 h1 h2 h3) (cells : List Value) (hc : w.ownsRow B 31 1 nv kn cells ∧ ∀ i, i < kn → ∃ u, cells[i]? = some u ∧ Own64 w B u)
    (own : w'.ownsRow B 31 1 v' (kn + 1) (cells ++ [v35])) (gr : w.grownBy w' nv.ownBlock) (sp : v'.ownBlock = nv.ownBlock ∨ w'.ownsRow w.heap.size 31 1 v' (kn + 1) (cells ++ [v35])) :
    Build w1 w' B ww nv0 sv0 lv0 v' sv lv (kn + 1) ks kl 0 q r v35 v42 h1 h2 h3 := by
  have f : Fr (bl_ nv) w w' := (Fr.refl _ w).grown gr fun k hk => .inl (mem_bl.2 hk)
  have hty : ∀ k ∈ bl_ nv, Ty w k 31 := fun k hk => h.rn.ty (mem_bl.1 hk)
  have hS : ∀ k ∈ bl_ nv, ∃ t, Ty w k t ∧ t ≠ 5 := fun k hk => ⟨31, hty k hk, by decide⟩
  have hcl : cells.length = kn := by have := hc.1.1; omega
  have hnew : ∀ g, v'.ownBlock = some g → nv.ownBlock = some g ∨ w.heap.size ≤ g := by
    intro g hg
    rcases sp with e | o
    · exact .inl (e ▸ hg)
    · exact .inr (own_low o hg)
  refine ⟨Nat.le_trans h.z f.size, Nat.le_trans h.lo f.size, h.base.trans (f.below h.lo fun k hk => own_low hc.1 (mem_bl.1 hk)), h.head.fr f (fun hk => (Ty.bl h.head).ne (hty _ hk) (by decide) rfl), ⟨_, own, fun i hi => ?_⟩,
    h.rs.fr f (fun g hg hk => h.ne g (mem_bl.1 hk) hg) hS, ownsRow_fr h.rl f (fun k hk hm => own_ty h.rl (hty k hm) (by decide) hk), fun e => by omega, fun e => by omega,
    fun e => (h.b1 e).fr f hS, fun e => ⟨(h.b2 e).1.fr f (fun hk => (h.b2 e).2.1 (mem_bl.1 hk)), fun e2 => ?_, (h.b2 e).2.2⟩, fun e => ⟨(h.c1 e).1.fr f (fun hk => (Ty.bl (h.c1 e).1).ne (hty _ hk) (by decide) rfl), (h.c1 e).2⟩, fun g hg hs => ?_⟩
  · rcases (by omega : i < kn ∨ i = kn) with h4 | rfl
    · obtain ⟨u, k1, k2⟩ := hc.2 i h4
      exact ⟨u, by rw [List.getElem?_append_left (by omega)]; exact k1, k2.fr f hS⟩
    · exact ⟨v35, by rw [List.getElem?_append_right (by omega), hcl, Nat.sub_self]; rfl, (h.a1 (by omega)).fr f hS⟩
  · rcases hnew _ e2 with h4 | h4
    · exact (h.b2 e).2.1 h4
    · have := (h.b2 e).1.lt; omega
  · rcases hnew g hg with h4 | h4
    · exact h.ne g h4 hs
    · have := h.rs.lt hs; omega
theorem Build.s16 (h : Build w1 w B ww nv0 sv0 lv0 nv sv lv kn ks kl p 2 r v35 v42 h1 h2 h3) (hp : p ≤ 1) (cells : List Value) (hc : w.ownsRow B 31 1 sv ks cells ∧ ∀ i, i < ks → ∃ u, cells[i]? = some u ∧ Own64 w B u)
    (own : w'.ownsRow B 31 1 v' (ks + 1) (cells ++ [v42])) (gr : w.grownBy w' sv.ownBlock) (sp : v'.ownBlock = sv.ownBlock ∨ w'.ownsRow w.heap.size 31 1 v' (ks + 1) (cells ++ [v42])) :
    Build w1 w' B ww nv0 sv0 lv0 nv v' lv kn (ks + 1) kl p 0 r v35 v42 h1 h2 h3 := by
  have f : Fr (bl_ sv) w w' := (Fr.refl _ w).grown gr fun k hk => .inl (mem_bl.2 hk)
  have hty : ∀ k ∈ bl_ sv, Ty w k 31 := fun k hk => h.rs.ty (mem_bl.1 hk)
  have hS : ∀ k ∈ bl_ sv, ∃ t, Ty w k t ∧ t ≠ 5 := fun k hk => ⟨31, hty k hk, by decide⟩
  have hcl : cells.length = ks := by have := hc.1.1; omega
  have hnew : ∀ g, v'.ownBlock = some g → sv.ownBlock = some g ∨ w.heap.size ≤ g := by
    intro g hg
    rcases sp with e | o
    · exact .inl (e ▸ hg)
    · exact .inr (own_low o hg)
  refine ⟨Nat.le_trans h.z f.size, Nat.le_trans h.lo f.size, h.base.trans (f.below h.lo fun k hk => own_low hc.1 (mem_bl.1 hk)), h.head.fr f (fun hk => (Ty.bl h.head).ne (hty _ hk) (by decide) rfl),
    h.rn.fr f (fun g hg hk => h.ne g hg (mem_bl.1 hk)) hS, ⟨_, own, fun i hi => ?_⟩, ownsRow_fr h.rl f (fun k hk hm => own_ty h.rl (hty k hm) (by decide) hk),
    fun e => (h.a1 e).fr f hS, fun e => by omega, fun e => by omega, fun e => by omega, fun e => ⟨(h.c1 e).1.fr f (fun hk => (Ty.bl (h.c1 e).1).ne (hty _ hk) (by decide) rfl), (h.c1 e).2⟩, fun g hg hs => ?_⟩
  · rcases (by omega : i < ks ∨ i = ks) with h4 | rfl
    · obtain ⟨u, k1, k2⟩ := hc.2 i h4
      exact ⟨u, by rw [List.getElem?_append_left (by omega)]; exact k1, k2.fr f hS⟩
    · exact ⟨v42, by rw [List.getElem?_append_right (by omega), hcl, Nat.sub_self]; rfl, (h.b1 (by omega)).fr f hS⟩
  · rcases hnew g hs with h4 | h4
    · exact h.ne g hg h4
    · have := h.rn.lt hg; omega
theorem Build.s22 (h : Build w1 w B ww nv0 sv0 lv0 nv sv lv kn ks kl 0 0 1 v35 v42 h1 h2 h3)
    (own : w'.ownsRow B 4 1 v' (kl + 1) (tv (List.replicate kl false) ++ [.bool false])) (gr : w.grownBy w' lv.ownBlock) :
    Build w1 w' B ww nv0 sv0 lv0 nv sv v' kn ks (kl + 1) 0 0 0 v35 v42 h1 h2 h3 := by
  have f : Fr (bl_ lv) w w' := (Fr.refl _ w).grown gr fun k hk => .inl (mem_bl.2 hk)
  have hty : ∀ k ∈ bl_ lv, Ty w k 4 := fun k hk => by
    have hg := mem_bl.1 hk
    obtain ⟨_, ⟨rfl, _⟩ | ⟨g', cap, cur, rfl, _, hh, _⟩⟩ := h.rl
    · cases hg
    · injection hg with hg
      change g' = k at hg
      subst hg
      exact ⟨cur, hh⟩
  have hS : ∀ k ∈ bl_ lv, ∃ t, Ty w k t ∧ t ≠ 5 := fun k hk => ⟨4, hty k hk, by decide⟩
  refine ⟨Nat.le_trans h.z f.size, Nat.le_trans h.lo f.size, h.base.trans (f.below h.lo fun k hk => own_low h.rl (mem_bl.1 hk)), h.head.fr f (fun hk => (Ty.bl h.head).ne (hty _ hk) (by decide) rfl),
    h.rn.fr f (fun g hg hk => (h.rn.ty hg).ne (hty _ hk) (by decide) rfl) hS, h.rs.fr f (fun g hg hk => (h.rs.ty hg).ne (hty _ hk) (by decide) rfl) hS, ?_,
    fun e => by omega, fun e => by omega, fun e => by omega, fun e => by omega, fun e => by omega, h.ne⟩
  have e : tv (List.replicate kl false) ++ [.bool false] = tv (List.replicate (kl + 1) false) := by
    rw [List.replicate_succ']
    simp [tv]
  rw [← e]
  exact own
end
end Go.Proofs.Ytchibinlcedjaaa
