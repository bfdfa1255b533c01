import Derived.Test.YtaogloegiffioaaGreatDoorProg
import Derived.WalkKit
import Derived.WalkSpells
import Derived.WalkLawsBesides
import Derived.Deep.QuietTactic
import Derived.BigQuiet
import Derived.Lib.Hide
import Derived.Lib.SlBytesConst
import Derived.Laws.AppendOwnNone
import Derived.OpenShut
import Derived.StillTailTactics
import Derived.Deep.DeepCutAuto
import Derived.Deep.LoopGhost
import Derived.Deep.RegionWith
import Derived.Laws.CopyOwn
set_option linter.all false
namespace Go.Proofs.YtaogloegiffioaaGreatDoor.V
open Go.RowKit
structure Fr (S : List Nat) (w w' : World) : Prop where
  os : w'.os = w.os
  tape : w'.tape = w.tape
  output : w'.output = w.output
  size : w.heap.size ≤ w'.heap.size
  block : ∀ k, k < w.heap.size → k ∉ S → w'.heap[k]? = w.heap[k]?
theorem Fr.refl (S : List Nat) (w : World) : Fr S w w := ⟨rfl, rfl, rfl, Nat.le_refl _, fun _ _ _ => rfl⟩
theorem Fr.trans {S : List Nat} {a b c : World} (h : Fr S a b) (k : Fr S b c) : Fr S a c :=
  ⟨k.os.trans h.os, k.tape.trans h.tape, k.output.trans h.output, Nat.le_trans h.size k.size, fun i hi hs => (k.block i (Nat.lt_of_lt_of_le hi h.size) hs).trans (h.block i hi hs)⟩
theorem Fr.mono {S T : List Nat} {a b : World} (h : Fr S a b) (hs : ∀ k ∈ S, k ∈ T) : Fr T a b := ⟨h.os, h.tape, h.output, h.size, fun k hk hn => h.block k hk fun hm => hn (hs k hm)⟩
theorem Fr.alloc {S : List Nat} {a w : World} (h : Fr S a w) (o : Obj) : Fr S a (w.alloc o) :=
  h.trans ⟨rfl, rfl, rfl, by simp, fun k hk _ => Below.heap_alloc _ _ _ hk⟩
theorem Fr.setCell {S : List Nat} {a w : World} (h : Fr S a w) {p : Addr} (hp : p.block ∈ S) (u : Value) : Fr S a (w.setCell p u) :=
  h.trans ⟨rfl, rfl, rfl, by simp [World.setCell], fun k _ hs => Below.heap_setCell _ _ _ _ (fun e => hs (e ▸ hp))⟩
theorem Fr.drew {S : List Nat} {a w : World} (h : Fr S a w) : Fr S a w.drew := ⟨h.os, h.tape, h.output, h.size, h.block⟩
theorem Fr.drewN {S : List Nat} {a w : World} (h : Fr S a w) (n : Nat) : Fr S a (w.drewN n) := h.trans ⟨rfl, rfl, rfl, Nat.le_refl _, fun _ _ _ => rfl⟩
theorem Fr.grown {S : List Nat} {a w w' : World} {row : Option Nat} (h : Fr S a w) (hg : w.grownBy w' row) (hr : ∀ k, row = some k → k ∈ S ∨ a.heap.size ≤ k) : Fr S a w' := by
  refine ⟨hg.os.trans h.os, hg.tape.trans h.tape, hg.output.trans h.output, Nat.le_trans h.size hg.size, fun k hk hs => ?_⟩
  rw [hg.block k (Nat.lt_of_lt_of_le hk h.size) ?_]
  · exact h.block k hk hs
  · intro e
    rcases hr k e.symm with h1 | h1
    · exact hs h1
    · omega
theorem Fr.of_below {w w' : World} (h : Below w.heap.size w w') : Fr [] w w' := ⟨h.os, h.tape, h.output, h.size, fun k hk _ => h.block k hk⟩
theorem Fr.below {S : List Nat} {w w' : World} {B : Nat} (h : Fr S w w') (hB : B ≤ w.heap.size) (hs : ∀ k ∈ S, B ≤ k) : Below B w w' :=
  ⟨h.os, h.tape, h.output, h.size, fun k hk => h.block k (by omega) fun hm => by have := hs k hm; omega⟩
theorem Fr.nil {w w' : World} (h : Fr [] w w') : Below w.heap.size w w' := h.below (Nat.le_refl _) (by simp)
def Bl (w : World) (b : Nat) (t : TypeId) (cs : List Value) : Prop := w.heap[b]? = some (.cells cs.toArray t (0, 0))
section
variable {w w' : World} {b : Nat} {t : TypeId} {cs : List Value}
theorem Bl.lt (h : Bl w b t cs) : b < w.heap.size := by
  rcases Nat.lt_or_ge b w.heap.size with hlt | hge
  · exact hlt
  · unfold Bl at h; rw [Array.getElem?_eq_none hge] at h; cases h
theorem Bl.cell (h : Bl w b t cs) (i : Nat) : w.cell? ⟨b, i, none⟩ = cs[i]? := by
  unfold Bl at h
  simp [World.cell?, h]
theorem Bl.free (h : Bl w b t cs) (i : Nat) : w.frozen? ⟨b, i, none⟩ = false := by
  unfold Bl at h
  simp [World.frozen?, h]
theorem Bl.set (h : Bl w b t cs) (i : Nat) (u : Value) : Bl (w.setCell ⟨b, i, none⟩ u) b t (cs.set i u) := by
  unfold Bl at *
  rw [heap_setCell_same w b i _ _ _ h]
  simp
theorem Bl.setOther (h : Bl w b t cs) {p : Addr} (hp : b ≠ p.block) (u : Value) : Bl (w.setCell p u) b t cs := (heap_setCell_other w p b u hp).trans h
theorem Bl.new (w : World) (t : TypeId) (cs : List Value) : Bl (w.alloc (.cells cs.toArray t)) w.heap.size t cs := heap_alloc_new w _
theorem Bl.alloc (h : Bl w b t cs) (o : Obj) : Bl (w.alloc o) b t cs := (Below.heap_alloc w o b h.lt).trans h
theorem Bl.drew (h : Bl w b t cs) : Bl w.drew b t cs := h
theorem Bl.drewN (h : Bl w b t cs) (n : Nat) : Bl (w.drewN n) b t cs := h
theorem Bl.fr {S : List Nat} (h : Bl w b t cs) (f : Fr S w w') (hb : b ∉ S) : Bl w' b t cs := (f.block b h.lt hb).trans h
theorem Bl.below {B : Nat} (h : Bl w b t cs) (f : Below B w w') (hb : b < B) : Bl w' b t cs := (f.block b hb).trans h
theorem Bl.ne {b' : Nat} {t' : TypeId} {cs' : List Value} (h : Bl w b t cs) (h' : Bl w b' t' cs') (ht : t ≠ t') : b ≠ b' := by
  intro e
  subst e
  unfold Bl at h h'
  rw [h] at h'
  injection h' with h'
  injection h' with _ h2
  exact ht h2
end
def Sv (w : World) (B size : Nat) (v : Value) (n : Nat) (vs : List Value) : Prop :=
  vs.length = n * size ∧ n ≤ 9223372036854775807 ∧ ∃ a cap, v = .slice a n cap ∧ n ≤ cap ∧ cap ≤ maxLen ∧ (a = none → cap = 0) ∧ (vs = [] ∨ ∃ b off, a = some ⟨b, off, none⟩ ∧ b < B ∧ ∀ i (h : i < vs.length), w.cell? ⟨b, off + i, none⟩ = some vs[i])
section
variable {w w' : World} {B B' size : Nat} {v : Value} {n : Nat} {vs : List Value}
theorem Sv.keep (h : Sv w B size v n vs) (hB : B ≤ B') (hk : ∀ b o, b < B → w'.cell? ⟨b, o, none⟩ = w.cell? ⟨b, o, none⟩) : Sv w' B' size v n vs := by
  obtain ⟨hl, hm, a, cap, e, h0, h1, hn, h2⟩ := h
  refine ⟨hl, hm, a, cap, e, h0, h1, hn, h2.imp id ?_⟩
  rintro ⟨b, off, e1, hb, hc⟩
  exact ⟨b, off, e1, by omega, fun i hi => (hk _ _ hb).trans (hc i hi)⟩
theorem Sv.below {B0 : Nat} (h : Sv w B size v n vs) (hB : B ≤ B') (hb : Below B0 w w') (h0 : B ≤ B0) : Sv w' B' size v n vs :=
  h.keep hB fun b o hlt => hb.cell (p := ⟨b, o, none⟩) (show b < B0 by omega)
theorem Sv.grown {row : Option Nat} (h : Sv w B size v n vs) (g : w.grownBy w' row) (hB : B ≤ w.heap.size) (hr : ∀ k, row = some k → B ≤ k) (hB' : B ≤ B') : Sv w' B' size v n vs :=
  h.keep hB' fun b o hb => World.cell?_of_block (g.block b (by omega) (fun e => by have := hr _ e.symm; omega))
theorem Sv.nil (w : World) (B size : Nat) : Sv w B size (.slice none 0 0) 0 [] := ⟨by simp, by omega, none, 0, rfl, by simp, by simp [maxLen], fun _ => rfl, .inl rfl⟩
theorem Sv.form (h : Sv w B size v n vs) : ∃ a cap, v = .slice a n cap ∧ n ≤ 9223372036854775807 := by
  obtain ⟨_, h1, a, cap, e, _⟩ := h
  exact ⟨a, cap, e, h1⟩
theorem Sv.drewN (h : Sv w B size v n vs) (k : Nat) : Sv (w.drewN k) B size v n vs := h.keep (Nat.le_refl _) fun _ _ _ => rfl
theorem Sv.drew (h : Sv w B size v n vs) : Sv w.drew B size v n vs := h.keep (Nat.le_refl _) fun _ _ _ => rfl
theorem Sv.at_ {a : Option Addr} {m cap : Nat} (h : Sv w B size (.slice a m cap) n vs) (hv : 0 < vs.length) : ∃ b off, a = some ⟨b, off, none⟩ ∧ b < B ∧ ∀ i (h : i < vs.length), w.cell? ⟨b, off + i, none⟩ = some vs[i] := by
  obtain ⟨_, _, a', cap', e, _, _, _, h2⟩ := h
  injection e with e1 e2 e3
  subst e1
  rcases h2 with rfl | ⟨b, off, e, hb, hc⟩
  · simp at hv
  · exact ⟨b, off, e, hb, hc⟩
theorem Bl.sv {b : Nat} {t : TypeId} {cs : List Value} (h : Bl w b t cs) (size off n cap : Nat) (hB : b < B) (h0 : n * size ≤ cs.length - off) (hn : n ≤ cap) (hc : cap ≤ maxLen) :
    Sv w B size (.slice (some ⟨b, off, none⟩) n cap) n ((cs.drop off).take (n * size)) := by
  refine ⟨by simp; omega, by unfold maxLen at hc; omega, _, cap, rfl, hn, hc, by simp, .inr ⟨b, off, rfl, hB, fun i hi => ?_⟩⟩
  simp at hi
  rw [h.cell]
  simp
end
def bv (l : List UInt8) : List Value := l.map fun c => .int .u8 (c.toNat : Int)
def tv (l : List Bool) : List Value := l.map fun c => .bool c
def iv (l : List Int) : List Value := l.map fun c => .int .i64 c
theorem bv_len (l : List UInt8) : (bv l).length = l.length := by simp [bv]
theorem tv_len (l : List Bool) : (tv l).length = l.length := by simp [tv]
theorem iv_len (l : List Int) : (iv l).length = l.length := by simp [iv]
theorem bv_app (a b : List UInt8) : bv a ++ bv b = bv (a ++ b) := by simp [bv]
theorem iv_app (a b : List Int) : iv a ++ iv b = iv (a ++ b) := by simp [iv]
theorem tv_app (a b : List Bool) : tv a ++ tv b = tv (a ++ b) := by simp [tv]
theorem bv_one (l : List UInt8) : ∀ u ∈ bv l, u.oneCell' = true := by
  intro u hu
  simp only [bv, List.mem_map] at hu
  obtain ⟨c, _, rfl⟩ := hu
  rfl
theorem iv_one (l : List Int) : ∀ u ∈ iv l, u.oneCell' = true := by
  intro u hu
  simp only [iv, List.mem_map] at hu
  obtain ⟨c, _, rfl⟩ := hu
  rfl
def Sl (w : World) (B : Nat) (v : Value) (l : List UInt8) : Prop := Sv w B 1 v l.length (bv l)
theorem Sl.at_ {w : World} {B : Nat} {a : Option Addr} {m cap : Nat} {l : List UInt8} (h : Sl w B (.slice a m cap) l) (k : Nat) (hk : k < l.length) : ∃ b off, a = some ⟨b, off, none⟩ ∧ b < B ∧ w.cell? ⟨b, off + k, none⟩ = some (.int .u8 l[k].toNat) := by
  obtain ⟨b, off, e, hb, hc⟩ := Sv.at_ h (by simp [bv]; omega)
  refine ⟨b, off, e, hb, ?_⟩
  rw [hc k (by simpa [bv] using hk)]
  simp [bv]
theorem Sv.own {w : World} {base : Nat} {e : TypeId} {size : Nat} {v : Value} {n : Nat} {xs : List Value} (h : w.ownsRow base e size v n xs) : Sv w w.heap.size size v n xs := by
  obtain ⟨h1, h2⟩ := h
  rcases h2 with ⟨rfl, rfl⟩ | ⟨g, cap, cur, rfl, hg, hh, hn, hc, hs, ht⟩
  · have : xs = [] := List.eq_nil_of_length_eq_zero (by omega)
    subst this
    exact Sv.nil _ _ _
  · have hlt : g < w.heap.size := by
      rcases Nat.lt_or_ge g w.heap.size with hlt | hge
      · exact hlt
      · rw [Array.getElem?_eq_none hge] at hh; cases hh
    refine ⟨h1, by unfold maxLen at hc; omega, _, cap, rfl, hn, hc, by simp, .inr ⟨g, 0, rfl, hlt, fun i hi => ?_⟩⟩
    have e2 : cur[i]? = xs[i]? := by
      rw [← ht, List.getElem?_take, if_pos (by omega), Array.getElem?_toList]
    simp only [World.cell?, hh, Nat.zero_add]
    simp only [Option.isSome_none, Bool.false_eq_true, if_false, e2]
    simp [hi]
theorem own_ge {w : World} {base : Nat} {e : TypeId} {size : Nat} {v : Value} {n : Nat} {xs : List Value} (h : w.ownsRow base e size v n xs) {k B : Nat} (hk : v.ownBlock = some k) (hB : B ≤ base) : B ≤ k := by
  obtain ⟨_, ⟨rfl, _⟩ | ⟨g, cap, cur, rfl, hg, _⟩⟩ := h
  · cases hk
  · cases hk; exact Nat.le_trans hB hg
theorem ownsRow_fr {w w' : World} {base : Nat} {e : TypeId} {size : Nat} {v : Value} {n : Nat} {xs : List Value} {S : List Nat} (h : w.ownsRow base e size v n xs) (f : Fr S w w') (hs : ∀ k, v.ownBlock = some k → k ∉ S) : w'.ownsRow base e size v n xs := by
  obtain ⟨h1, h2 | ⟨g, cap, cur, rfl, hg, hh, r⟩⟩ := h
  · exact ⟨h1, .inl h2⟩
  · have hlt : g < w.heap.size := by
      rcases Nat.lt_or_ge g w.heap.size with hlt | hge
      · exact hlt
      · rw [Array.getElem?_eq_none hge] at hh; cases hh
    exact ⟨h1, .inr ⟨g, cap, cur, rfl, hg, (f.block g hlt (hs g rfl)).trans hh, r⟩⟩
theorem wpList_app {P : Program} {w : World} {ops : Array Oper} {rest : List Oper} {o : Oper} {a : Act} {Q : Exit → Act → World → Prop} (s x : Operand) (t : TypeId)
    (hgd : o.guard = none) (ho : o.op = .call { callee := .builtin .append, args := #[s, x], argTypes := #[t, t] })
    (base : Nat) (e : TypeId) (z : Value) (bytes : Nat) (ht : P.underlying t = some (.slice e)) (hinfo : (P.info? e).map (fun i => (i.zero, i.size, i.bytes)) = some (some z, 1, bytes)) (hzs : z.cells.size = 1)
    (v : Value) (n : Nat) (xs : List Value) (hs : a.eval s = v) (hown : w.ownsRow base e 1 v n xs)
    (xv : Value) (m B : Nat) (news : List Value) (hx : a.eval x = xv) (hsv : Sv w B 1 xv m news) (h1 : ∀ u ∈ news, u.oneCell' = true)
    (h63 : n + m ≤ maxLen) (hbytes : (n + m) * bytes ≤ 140737488355328) (hbase : base ≤ w.heap.size)
    (h : ∀ v' w', w'.ownsRow base e 1 v' (n + m) (xs ++ news) → w.grownBy w' v.ownBlock → (v' = .slice none 0 0 → v = .slice none 0 0) → wpList P ops Q rest (a.put o.dst v') w') : wpList P ops Q (o :: rest) a w := by
  obtain ⟨i, hi, hz, hsize, hby⟩ := info_parts hinfo
  obtain ⟨hl, _, oa, c, rfl, _, _, hN, hc⟩ := hsv
  rcases oa with _ | ad
  · rcases hc with rfl | ⟨b, off, e, _⟩
    · have hc := hN rfl
      subst hc
      have : m = 0 := by simpa using hl.symm
      subst this
      refine wpList_append_own_none hgd s x t ho base e i 1 ht hi v n xs hs hown hx ?_
      simpa using h v w (by simpa using hown) ⟨rfl, rfl, rfl, Nat.le_refl _, fun _ _ _ => rfl⟩ id
    · cases e
  · refine wpList_append_own w hgd s x t ho base e i z 1 bytes ht hi hz hsize hby hzs (by decide) v n xs hs hown ad m c news hx hl ?_ h1 h63 hbytes hbase (fun v' w' a1 a2 a3 => h v' w' a1 a2 fun h => (a3.1 h).1)
    intro j u hj
    obtain ⟨hj1, rfl⟩ := List.getElem?_eq_some_iff.1 hj
    rcases hc with rfl | ⟨b, off, e, hc⟩
    · simp at hj1
    · cases e
      rw [← hc.2 j hj1]
      unfold Addr.add
      split
      · next h0 => subst h0; rfl
      · rfl
def IsRow (k : IntKind) (w : World) (a : Option Addr) (len cap : Nat) (zs : List Int) : Prop :=
  (a = none ∧ len = 0 ∧ cap = 0 ∧ zs = []) ∨
  ∃ x, a = some x ∧ len ≤ cap ∧ cap ≤ maxLen ∧ zs.length = cap ∧ (∀ i, i < zs.length → w.cell? (x.add i) = some (.int k (zs.getD i 0))) ∧ ∀ n ∈ zs, (Lit.int k n).wf = true
theorem lt_of_cell {w : World} {a : Addr} {v : Value} (h : w.cell? a = some v) : a.block < w.heap.size := by
  rcases Nat.lt_or_ge a.block w.heap.size with hlt | hge
  · exact hlt
  · simp [World.cell?, Array.getElem?_eq_none hge] at h
theorem add_at (b off i : Nat) : (Addr.add ⟨b, off, none⟩ i) = ⟨b, off + i, none⟩ := by
  unfold Addr.add
  split
  · next h0 => subst h0; rfl
  · rfl
theorem Sv.of_cells {w : World} {a : Option Addr} {len cap size : Nat} (vs : List Value) (hn : a = none → cap = 0) (hl : vs.length = len * size) (h1 : len ≤ cap) (h2 : cap ≤ maxLen) (hc : ∀ x, a = some x → ∀ i (hi : i < vs.length), w.cell? (x.add i) = some vs[i]) : Sv w w.heap.size size (.slice a len cap) len vs := by
  refine ⟨hl, by unfold maxLen at h2; omega, a, cap, rfl, h1, h2, hn, ?_⟩
  cases vs with
  | nil => exact .inl rfl
  | cons u vs =>
    rcases a with _ | ⟨b, off, spot⟩
    · have := hn rfl
      subst this
      have : len = 0 := by omega
      subst this
      simp at hl
    · have c0 := hc _ rfl 0 (by simp)
      have hb := lt_of_cell c0
      have hsp : spot = none := by simpa [Addr.add] using World.cell?_spot c0
      subst hsp
      refine .inr ⟨b, off, rfl, by simpa [Addr.add] using hb, fun i hi => ?_⟩
      rw [← add_at]
      exact hc _ rfl i hi
theorem Sl.of_row {w : World} {a : Option Addr} {len cap : Nat} {zs : List Int} (h : IsRow .u8 w a len cap zs) : ∃ l, Sl w w.heap.size (.slice a len cap) l := by
  rcases h with ⟨rfl, rfl, rfl, rfl⟩ | ⟨x, rfl, h1, h2, rfl, hc, hw⟩
  · exact ⟨[], Sv.nil _ _ _⟩
  · have e : ((zs.take len).map fun z => UInt8.ofNat z.toNat).length = len := by simp; omega
    refine ⟨(zs.take len).map fun z => UInt8.ofNat z.toNat, ?_⟩
    unfold Sl
    rw [e]
    refine Sv.of_cells _ (by simp) (by rw [bv_len, e, Nat.mul_one]) h1 h2 ?_
    rintro x' ⟨⟩ i hi
    rw [bv_len, e] at hi
    rw [hc i (by omega)]
    have hi2 : i < zs.length := by omega
    have hb2 := bounds_u8 (hw zs[i] (List.getElem_mem hi2))
    simp [hi2, bv]
    omega
def Si (w : World) (B : Nat) (v : Value) (l : List Int) : Prop := Sv w B 1 v l.length (iv l) ∧ ∀ x ∈ l, -9223372036854775808 ≤ x ∧ x ≤ 9223372036854775807
theorem Si.of_row {w : World} {a : Option Addr} {len cap : Nat} {zs : List Int} (h : IsRow .i64 w a len cap zs) : ∃ l, Si w w.heap.size (.slice a len cap) l := by
  rcases h with ⟨rfl, rfl, rfl, rfl⟩ | ⟨x, rfl, h1, h2, rfl, hc, hw⟩
  · exact ⟨[], Sv.nil _ _ _, by simp⟩
  · have e : (zs.take len).length = len := by simp; omega
    refine ⟨zs.take len, ?_, fun x hx => bounds_i64 (hw x (List.mem_of_mem_take hx))⟩
    rw [e]
    refine Sv.of_cells _ (by simp) (by rw [iv_len, e, Nat.mul_one]) h1 h2 ?_
    rintro x' ⟨⟩ i hi
    rw [iv_len, e] at hi
    rw [hc i (by omega)]
    have hi2 : i < zs.length := by omega
    simp [hi2, iv]
theorem quiet_same {P : Program} {f : FuncId} {args : Array Value} {w : World} {n : Nat} {v : Value}
    (h : Calls P f args (w.drewN n) fun e w' => e = .returned v ∧ w.drewN n = w') : Calls P f args (w.drewN n) fun e w'' => e = .returned v ∧ ∃ m, w'' = w.drewN m :=
  h.mono fun _ _ ⟨he, hm⟩ => ⟨he, n, hm.symm⟩
end Go.Proofs.YtaogloegiffioaaGreatDoor.V
