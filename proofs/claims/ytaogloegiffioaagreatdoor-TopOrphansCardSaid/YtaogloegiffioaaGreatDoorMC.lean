import Derived.Test.YtaogloegiffioaaGreatDoorMB
import Derived.Lib.ConvBytes
import Derived.Laws.AppendOwn
import Derived.Deep.Upon
import Derived.Laws.RangeString
import Derived.Test.YtaogloegiffioaaGreatDoorProg
import Derived.Orders
set_option linter.all false
namespace Go.Proofs.YtaogloegiffioaaGreatDoor
theorem rep_one {α : Type} : ∀ (c : Nat) (v : α), (List.replicate c [v]).flatten = List.replicate c v
  | 0, _ => rfl
  | c + 1, v => by rw [List.replicate_succ, List.flatten_cons, List.replicate_succ, rep_one c v]; rfl
section
variable {P : Program} {ρ : Pl} {x y : G} {T : Tm} {σ : St} {v : AV} {X Y : Value} {t : TypeId} {w : World} {k : Blk} {f : Bid → AV}
theorem makeSlice_run {e n c : Nat} {i : TypeInfo} {z : Value} {q q' : IntKind} (hu : P.underlying t = some (.slice e)) (hi : P.info? e = some i) (hz : i.zero = some z) (h0 : 0 < i.bytes) (hle : n ≤ c) (hb : i.bytes * c ≤ 281474976710656) :
    (Instr.makeSlice t (.int q (.ofNat n)) (.int q' (.ofNat c))).run P w = .ok (.slice (some ⟨w.heap.size, 0, none⟩) n c) (w.alloc (.cells (if c * i.size = 0 then #[] else (Array.range (c * i.size)).map (fun j => z.cells[j % z.cells.size]!)) e)) := by
  have hc : c ≤ 281474976710656 := Nat.le_trans (Nat.le_mul_of_pos_left c h0) hb
  have w1 : IntKind.i64.wrap (n : Int) = (n : Int) := wrap_in (show n < lim .i64 by show n < 9223372036854775808; omega)
  have w2 : IntKind.i64.wrap (c : Int) = (c : Int) := wrap_in (show c < lim .i64 by show c < 9223372036854775808; omega)
  have h1 : ¬ ((c : Int) < (n : Int)) := by omega
  have h2 : ¬ (281474976710656 < (i.bytes : Int) * (c : Int)) := by
    rw [← Int.natCast_mul]; omega
  have h3 : ¬ ((n : Int) < 0) := by omega
  have h4 : ¬ ((c : Int) < 0) := by omega
  have hr : ∀ m, (askRoom m).run P w = .ok () w := fun m => askRoom_run
  by_cases hcs : c * i.size = 0
  · have e0 : Array.range 0 = #[] := rfl
    simp [Instr.makeSlice, run_underlying hu, asInt, asIntOf, typeInfo, hi, w1, w2, h1, h2, h3, h4, sizeOf, hcs, newRow, hr, e0]
  · simp [Instr.makeSlice, run_underlying hu, asInt, asIntOf, typeInfo, hi, w1, w2, h1, h2, h3, h4, sizeOf, hcs, newRow, zeroValue, hz, hr]
theorem msl_ok {e : Nat} {i : TypeInfo} {z : Value} {zl : List Value} (hu : P.underlying t = some (.slice e)) (hi : P.info? e = some i) (hz : i.zero = some z) (hzl : zrowA P e = some zl) (hsz : zl.length = i.size) (h0 : 0 < i.bytes) (h1 : 0 < i.size) (h2 : i.size ≤ i.bytes)
    (hx : Rv ρ (x T) X) (hy : Rv ρ (y T) Y) (h : msl e i.size i.bytes (mkRow (zl.map cA1)) x y T = .ok k f) : ∃ u w', (Instr.makeSlice t X Y).run P w = .ok u w' ∧ NRes ρ w k f u w' := by
  unfold msl at h
  obtain ⟨n, e1, h⟩ := (onNum_or h).resolve_right NB.ne
  obtain ⟨c, e2, h⟩ := (onNum_or h).resolve_right NB.ne
  obtain ⟨c1, h⟩ := ifN_ok h
  obtain ⟨c2, h⟩ := ifN_ok h
  obtain ⟨r, hr, h⟩ := orNB_ok h
  obtain ⟨q, rfl⟩ := Rv_num hx e1
  obtain ⟨q', rfl⟩ := Rv_num hy e2
  have c1 : n ≤ c := Nat.le_of_ble_eq_true c1
  have c2 : i.bytes * c ≤ 281474976710656 := Nat.le_of_ble_eq_true c2
  cases h
  obtain ⟨z', i', hi', hz', rfl, z1, z2, _⟩ := zrow_run hzl
  rw [hi] at hi'; cases hi'
  rw [hz] at hz'; cases hz'
  refine ⟨_, _, makeSlice_run hu hi hz h0 c1 c2, ?_⟩
  obtain ⟨g1, g2, g3⟩ := rowRep_spec c r hr
  have hzs : z.cells.size = i.size := by simpa using hsz
  have hcells : (if c * i.size = 0 then #[] else (Array.range (c * i.size)).map (fun j => z.cells[j % z.cells.size]!)).toList = (List.replicate c z.cells.toList).flatten := by
    split
    · next hc0 =>
      have : c = 0 := (Nat.mul_eq_zero.1 hc0).resolve_right (by omega)
      subst this; rfl
    · exact zero_cells z.cells i.size c hzs h1
  have hlen : (List.replicate c z.cells.toList).flatten.length = c * i.size := by rw [rep_len]; simp [hzs]
  have hrow : RowOf ρ r (List.replicate c z.cells.toList).flatten := by
    refine ⟨g1, by omega, fun j u hu' => ?_⟩
    have hj : j < c * i.size := by
      rcases Nat.lt_or_ge j (c * i.size) with g | g
      · exact g
      · rw [List.getElem?_eq_none (by omega)] at hu'; cases hu'
    rw [rep_rows z.cells.toList i.size hsz h1 c j hj] at hu'
    have hq : j / i.size < c := by rw [Nat.div_lt_iff_lt_mul h1]; exact hj
    have hm : j % i.size < i.size := Nat.mod_lt _ h1
    obtain ⟨a, a1, a2⟩ := g3 _ hq _ hm
    have hj2 : j / i.size * i.size + j % i.size = j := by rw [Nat.mul_comm]; exact Nat.div_add_mod j i.size
    rw [hj2] at a2
    have := (mkRow_of (ρ := ρ) z1 z2).2.2 _ _ hu'
    exact Rw_congr (a1.trans a2.symm) this
  have := NRes.row (ρ := ρ) (w := w) (t := e) (n := c * i.size) (f := slB n c i.size) (x := .slice (some ⟨w.heap.size, 0, none⟩) n c) (extra := []) (fr := (0, 0)) hrow hlen (.inl rfl) (sl_new c1 (by
    rw [maxLen_eq]
    have : c ≤ i.bytes * c := Nat.le_mul_of_pos_left c h0
    omega) (by simp))
  rw [← hcells] at this
  simpa using this
theorem bits_zero (w n i l : Nat) : bitsAt w n 0 i l = 0 := by rw [bitsAt_eq]; simp
theorem mslk_ok {e : Nat} {κ : PK} {i : TypeInfo} (hu : P.underlying t = some (.slice e)) (hi : P.info? e = some i) (hz : i.zero = some (pkV κ 0)) (h0 : 0 < i.bytes) (h1 : i.size = 1)
    (hx : Rv ρ (x T) X) (hy : Rv ρ (y T) Y) (h : mslk κ e i.bytes x y T = .ok k f) : ∃ u w', (Instr.makeSlice t X Y).run P w = .ok u w' ∧ NRes ρ w k f u w' := by
  unfold mslk at h
  obtain ⟨n, e1, h⟩ := (onNum_or h).resolve_right NB.ne
  obtain ⟨c, e2, h⟩ := (onNum_or h).resolve_right NB.ne
  obtain ⟨c1, h⟩ := ifN_ok h
  obtain ⟨c2, h⟩ := ifN_ok h
  obtain ⟨q, rfl⟩ := Rv_num hx e1
  obtain ⟨q', rfl⟩ := Rv_num hy e2
  have c1 : n ≤ c := Nat.le_of_ble_eq_true c1
  have c2 : i.bytes * c ≤ 281474976710656 := Nat.le_of_ble_eq_true c2
  cases h
  refine ⟨_, _, makeSlice_run hu hi hz h0 c1 c2, ?_⟩
  have hcells : (if c * i.size = 0 then #[] else (Array.range (c * i.size)).map (fun j => (pkV κ 0).cells[j % (pkV κ 0).cells.size]!)).toList = List.replicate c (pkV κ 0) := by
    have hf : (List.replicate c [pkV κ 0]).flatten = List.replicate c (pkV κ 0) := rep_one c _
    split
    · next hc0 =>
      have : c = 0 := by rw [h1] at hc0; omega
      subst this; rfl
    · have := zero_cells (pkV κ 0).cells 1 c (by rw [pkV_one]; rfl) (by omega)
      rw [h1, this, pkV_one]; exact hf
  have := NRes.pk (ρ := ρ) (w := w) (κ := κ) (t := e) (n := c) (m := 0) (cs := List.replicate c (pkV κ 0)) (f := slB n c 1) (x := .slice (some ⟨w.heap.size, 0, none⟩) n c) (extra := []) (fr := (0, 0)) (Nat.two_pow_pos _) (by simp) (fun j hj => by
    rw [bits_zero, List.getElem?_replicate, if_pos hj]) (.inl rfl) (sl_new c1 (by
    rw [maxLen_eq]
    have : c ≤ i.bytes * c := Nat.le_mul_of_pos_left c h0
    omega) (by simp))
  rw [← hcells] at this
  simpa using this
theorem mmp_ok (h : mmp T = .ok k f) : ∃ u w', (Instr.makeMap t none).run P w = .ok u w' ∧ NRes ρ w k f u w' := by
  cases h
  refine ⟨.map (some w.heap.size), w.alloc (.map #[] 0), rfl, rfl, rfl, rfl, by show _ ≤ (w.heap.push _).size; simp, alloc_old w _, ⟨w.heap.size, 0, w.heap.size⟩, Nat.le_refl _, Nat.le_refl _, fun ρ' b _ hb => ⟨⟨rfl, #[], alloc_new w _, rfl⟩, _, hb, rfl⟩⟩
theorem rng_ok (hu : P.underlying t = some .string) (hx : Rv ρ (x T) X) (h : rng x T = .ok k f) : ∃ u w', (Instr.range t X).run P w = .ok u w' ∧ NRes ρ w k f u w' := by
  unfold rng at h
  obtain ⟨l, m, e1, h⟩ := onS_some h NB.ne
  rw [e1] at hx
  obtain ⟨rfl, h1, h2⟩ := hx
  cases h
  refine ⟨.pointer (some ⟨w.heap.size, 0, none⟩), w.alloc (.stringIter (strOf l m) 0), ?_, rfl, rfl, rfl, by show _ ≤ (w.heap.push _).size; simp, alloc_old w _, ⟨w.heap.size, 0, w.heap.size⟩, Nat.le_refl _, Nat.le_refl _, fun ρ' b _ hb => ⟨⟨rfl, rfl, alloc_new w _, h1, h2⟩, _, hb, rfl⟩⟩
  have e : (newObj (.stringIter (strOf l m) 0)).run P w = .ok w.heap.size (w.alloc (.stringIter (strOf l m) 0)) := rfl
  simp [Instr.range, run_underlying hu, e]
end
end Go.Proofs.YtaogloegiffioaaGreatDoor
namespace Go.Proofs.YtaogloegiffioaaGreatDoor
theorem heap_setCells (b : Nat) (t : TypeId) (fr : Nat × Nat) : ∀ (vs : List Value) (o : Nat) (w : World) (arr : Array Value), w.heap[b]? = some (.cells arr t fr) →
    ∃ arr', (w.setCells b o vs).heap[b]? = some (.cells arr' t fr) ∧ arr'.size = arr.size ∧ ∀ i, i < arr.size → arr'[i]? = if o ≤ i ∧ i < o + vs.length then vs[i - o]? else arr[i]? := by
  intro vs
  induction vs with
  | nil => intro o w arr h; exact ⟨arr, h, rfl, fun i _ => by rw [if_neg (by rintro ⟨h1, h2⟩; rw [List.length_nil] at h2; omega)]⟩
  | cons v r ih =>
    intro o w arr h
    have h1 : (w.setCell ⟨b, o, none⟩ v).heap[b]? = some (.cells (arr.setIfInBounds o v) t fr) := by
      simp [World.setCell, Array.getElem?_modify, h]
    obtain ⟨arr', e, hz, g⟩ := ih (o + 1) _ _ h1
    refine ⟨arr', e, by simpa using hz, fun i hi => ?_⟩
    rw [g i (by simpa using hi)]
    by_cases h2 : o + 1 ≤ i ∧ i < o + 1 + r.length
    · rw [if_pos h2, if_pos (by simp; omega), show i - o = (i - (o + 1)) + 1 by omega]; simp
    · rw [if_neg h2, Array.getElem?_setIfInBounds]
      by_cases h3 : o = i
      · subst h3; rw [if_pos rfl, if_pos hi, if_pos (by simp)]; simp
      · rw [if_neg h3, if_neg (by simp; omega)]
theorem setCells_rest (b : Nat) : ∀ (vs : List Value) (o : Nat) (w : World), (w.setCells b o vs).os = w.os ∧ (w.setCells b o vs).tape = w.tape ∧ (w.setCells b o vs).output = w.output ∧ (w.setCells b o vs).heap.size = w.heap.size ∧ ∀ r, r ≠ b → (w.setCells b o vs).heap[r]? = w.heap[r]? := by
  intro vs
  induction vs with
  | nil => intro o w; exact ⟨rfl, rfl, rfl, rfl, fun _ _ => rfl⟩
  | cons v r ih =>
    intro o w
    obtain ⟨h1, h2, h3, h4, h5⟩ := ih (o + 1) (w.setCell ⟨b, o, none⟩ v)
    refine ⟨h1, h2, h3, h4.trans (by simp [World.setCell]), fun i hi => (h5 i hi).trans (heap_setCell_other w ⟨b, o, none⟩ i v hi)⟩
theorem frozen_of {w : World} {r : Nat} {arr : Array Value} {t : TypeId} {fr : Nat × Nat} (h : w.heap[r]? = some (.cells arr t fr)) (hf : fr = (0, 0) ∨ arr.size ≤ fr.1) {i : Nat} (hi : i < arr.size) : w.frozen? ⟨r, i, none⟩ = false := by
  obtain ⟨lo, hi2⟩ := fr
  simp only [World.frozen?, h]
  simp only [Prod.mk.injEq] at hf
  simp
  omega
def RRes (σ : St) (ρ : Pl) (w : World) (v : AV) (σ' : St) (x : Value) (w' : World) : Prop := ∃ ρ', Rv ρ' v x ∧ RS ρ' σ' w' ∧ Step σ ρ w σ' ρ' w'
section
variable {P : Program} {ρ : Pl} {x y : G} {T : Tm} {σ σ' : St} {v : AV} {X Y : Value} {t : TypeId} {w : World} {k : Blk} {f : Bid → AV}
theorem not_own {L : Loc} (e : L.q = L.r) {r : Nat} (h : ¬ Own L r) : r ≠ L.r := fun h' => h (.inl h'.symm)
theorem storeRow_ok {b : Bid} {L : Loc} {tt N o : Nat} {r q : Row} {vs : List Value} (hs : RS ρ σ w) (eL : ρ b = some L) (ek : σ.h.at b = .cells tt N r) (hone : ∀ v ∈ vs, v.oneCell' = true) (ho : o + vs.length ≤ N) (hg : q.good) (hc : N ≤ q.cap)
    (h1 : ∀ j y, vs[j]? = some y → Rw ρ q (o + j) y) (h2 : ∀ j, j < N → (j < o ∨ o + vs.length ≤ j) → ∀ u, r.get j = .ok u → q.get j = .ok u) :
    (∀ j, j < vs.length → (w.cell? ⟨L.r, L.s + o + j, none⟩).isSome = true) ∧ (∀ j, j < vs.length → w.frozen? ⟨L.r, L.s + o + j, none⟩ = false) ∧
      RS ρ (σ.put b (.cells tt N q)) (w.setCells L.r (L.s + o) vs) ∧ Step σ ρ w (σ.put b (.cells tt N q)) ρ (w.setCells L.r (L.s + o) vs) := by
  have hb := hs.blk b L eL
  rw [ek] at hb
  obtain ⟨e0, arr, fr, e, g1, g2, g3, g4, g5, g6⟩ := hb
  obtain ⟨arr', e', z', g'⟩ := heap_setCells L.r tt fr vs (L.s + o) w arr e
  obtain ⟨q1, q2, q3, q4, q5⟩ := setCells_rest L.r vs (L.s + o) w
  refine ⟨fun j hj => ?_, fun j hj => ?_, ?_⟩
  · rw [cell_of e, Array.getElem?_eq_getElem (by omega)]; rfl
  · exact frozen_of e g3 (by omega)
  · refine put_ok hs ⟨eL, by rw [ek]; trivial⟩ ?_ q1 q2 q3 (Nat.le_of_eq q4.symm) (fun r' _ hr' => q5 r' (not_own e0 hr'))
    refine ⟨e0, arr', fr, e', by omega, by omega, by rw [z']; exact g3, hg, hc, fun i hi => ?_⟩
    rw [g' (L.s + i) (by omega)]
    by_cases hin : L.s + o ≤ L.s + i ∧ L.s + i < L.s + o + vs.length
    · rw [if_pos hin]
      have hlt : i - o < vs.length := by omega
      refine ⟨vs[i - o], ?_, ?_⟩
      · rw [show L.s + i - (L.s + o) = i - o by omega, List.getElem?_eq_getElem hlt]
      · have := h1 (i - o) _ (List.getElem?_eq_getElem hlt)
        rwa [show o + (i - o) = i by omega] at this
    · rw [if_neg hin]
      obtain ⟨x, ex, hx⟩ := g6 i hi
      obtain ⟨u, u1, u2, u3⟩ := (Rw_get _ _ _).1 hx
      exact ⟨x, ex, (Rw_get _ _ _).2 ⟨u, h2 i hi (by omega) u u1, u2, u3⟩⟩
theorem pkV_oneCell (κ : PK) (d : Nat) : (pkV κ d).oneCell' = true := by cases κ <;> rfl
theorem storePk_ok {b : Bid} {L : Loc} {κ : PK} {tt n o m z : Nat} {vs : List Value} (hs : RS ρ σ w) (eL : ρ b = some L) (ek : σ.h.at b = .pk κ tt n m) (ho : o + vs.length ≤ n) (hz : z < 2 ^ (pkw κ * vs.length))
    (h1 : ∀ j y, vs[j]? = some y → y = pkV κ (bitsAt (pkw κ) vs.length z j 1)) :
    (∀ j, j < vs.length → (w.cell? ⟨L.r, L.s + o + j, none⟩).isSome = true) ∧ (∀ j, j < vs.length → w.frozen? ⟨L.r, L.s + o + j, none⟩ = false) ∧ (∀ v ∈ vs, v.oneCell' = true) ∧
      RS ρ (σ.put b (.pk κ tt n (bitsSet (pkw κ) n m o vs.length z))) (w.setCells L.r (L.s + o) vs) ∧ Step σ ρ w (σ.put b (.pk κ tt n (bitsSet (pkw κ) n m o vs.length z))) ρ (w.setCells L.r (L.s + o) vs) := by
  have hb := hs.blk b L eL
  rw [ek] at hb
  obtain ⟨e0, arr, fr, e, g1, g2, g3, g4, g5⟩ := hb
  obtain ⟨arr', e', z', g'⟩ := heap_setCells L.r tt fr vs (L.s + o) w arr e
  obtain ⟨q1, q2, q3, q4, q5⟩ := setCells_rest L.r vs (L.s + o) w
  refine ⟨fun j hj => ?_, fun j hj => ?_, fun y hy => ?_, ?_⟩
  · rw [cell_of e, Array.getElem?_eq_getElem (by omega)]; rfl
  · exact frozen_of e g3 (by omega)
  · obtain ⟨j, hj⟩ := List.getElem?_of_mem hy
    rw [h1 j y hj]; exact pkV_oneCell _ _
  · refine put_ok hs ⟨eL, by rw [ek]; trivial⟩ ?_ q1 q2 q3 (Nat.le_of_eq q4.symm) (fun r' _ hr' => q5 r' (not_own e0 hr'))
    refine ⟨e0, arr', fr, e', by omega, by omega, by rw [z']; exact g3, bits_set_lt hz ho g4, fun i hi => ?_⟩
    rw [g' (L.s + i) (by omega), bits_set_cell hz ho hi]
    by_cases hin : o ≤ i ∧ i < o + vs.length
    · rw [if_pos (by omega), if_pos hin]
      have hlt : i - o < vs.length := by omega
      rw [show L.s + i - (L.s + o) = i - o by omega, List.getElem?_eq_getElem hlt]
      exact congrArg some (h1 (i - o) _ (List.getElem?_eq_getElem hlt))
    · rw [if_neg (by omega), if_neg hin]
      exact g5 i hi
theorem storeAt_run {L : Loc} {o n : Nat} (hn : sizeA P t = some n) (hsz : Y.cells.size = n) (h1 : ∀ j, j < Y.cells.toList.length → (w.cell? ⟨L.r, L.s + o + j, none⟩).isSome = true) (h2 : ∀ j, j < Y.cells.toList.length → w.frozen? ⟨L.r, L.s + o + j, none⟩ = false) (h3 : ∀ v ∈ Y.cells.toList, v.oneCell' = true) :
    (Instr.storeAt t (.pointer (some ⟨L.r, L.s + o, none⟩)) Y).run P w = .ok () (w.setCells L.r (L.s + o) Y.cells.toList) := by
  have hst := run_storeCells_cells (P := P) L.r (L.s + o) Y.cells.toList 0 w (by simpa using h1) (by simpa using h2) h3
  simp only [Nat.add_zero] at hst
  simp [Instr.storeAt, Instr.sureAddr, storeVar, sizeOf_run hn, hsz, hst]
theorem st1_ok (hs : RS ρ σ w) (hn : sizeA P t = some 1) (hx : Rv ρ (x T) X) (hy : Rv ρ (y T) Y) (h : st1 x y T σ = .ok v σ') : v = undefA ∧ ∃ w', (Instr.storeAt t X Y).run P w = .ok () w' ∧ RS ρ σ' w' ∧ Step σ ρ w σ' ρ w' := by
  unfold st1 at h
  obtain ⟨b, o, e1, h⟩ := onP_some h RA.ne
  rw [e1] at hx
  obtain ⟨L, eL, rfl⟩ := hx
  rcases onCP_some h RA.ne with ⟨tt, N, r, ek, h⟩ | ⟨κ, tt, n, m, ek, h⟩
  · obtain ⟨c0, h⟩ := boolRA_ok h
    obtain ⟨c0, c1⟩ := Bool.and_eq_true_iff.1 c0
    have c0 : o < N := Nat.le_of_ble_eq_true c0
    cases h
    have hone := oneC_ok hy c1
    have hcells := one_cells hone
    have hb := hs.blk b L eL
    rw [ek] at hb
    obtain ⟨_, _, _, _, _, _, _, g4, g5, _⟩ := hb
    obtain ⟨s1, s2, s3, s4⟩ := Row.set_good g4 (show o < r.cap by omega) 0 (y T)
    obtain ⟨k1, k2, k3, k4⟩ := storeRow_ok (vs := [Y]) (q := r.set 0 o (y T)) hs eL ek (by simpa using hone) (by show o + 1 ≤ N; omega) s1 (by omega) (fun j z hz => by
      cases j with
      | zero => simp at hz; subst hz; exact (Rw_get _ _ _).2 ⟨_, s3, hy, hone⟩
      | succ j => simp at hz) (fun j hj hor u hu => s4 j (by omega) (by simp at hor; omega) u hu)
    refine ⟨rfl, _, storeAt_run (L := L) (o := o) hn (by rw [hcells]; rfl) (by rw [hcells]; exact k1) (by rw [hcells]; exact k2) (by rw [hcells]; simpa using hone), ?_⟩
    rw [hcells]; exact ⟨k3, k4⟩
  · obtain ⟨c0, h⟩ := boolRA_ok h
    have c0 : o < n := Nat.le_of_ble_eq_true c0
    obtain ⟨a, h1, h⟩ := RAofN_ok h
    obtain ⟨d, rfl, hd, rfl⟩ := pkNum_ok hy h1
    cases h
    obtain ⟨k1, k2, k3, k4, k5⟩ := storePk_ok (vs := [pkV κ d]) (z := d) hs eL ek (by show o + 1 ≤ n; omega) (by simpa using hd) (fun j z hz => by
      cases j with
      | zero => simp at hz; subst hz; rw [show [pkV κ d].length = 1 from rfl, bits_all (by simpa using hd)]
      | succ j => simp at hz)
    refine ⟨rfl, _, storeAt_run (L := L) (o := o) hn (by rw [pkV_one]; rfl) (by rw [pkV_one]; exact k1) (by rw [pkV_one]; exact k2) (by rw [pkV_one]; simpa using pkV_oneCell κ d), ?_⟩
    rw [pkV_one]; exact ⟨k4, k5⟩
def Src' (ρ : Pl) (q : Row) (qo : Nat) (vs : List Value) : Prop := q.good ∧ qo + vs.length ≤ q.cap ∧ ∀ j y, vs[j]? = some y → Rw ρ q (qo + j) y
theorem stRow_ok {b : Bid} {L : Loc} {o l : Nat} {q : Row} {qo : Nat} {vs : List Value} {u : AV} (hs : RS ρ σ w) (eL : ρ b = some L) (hq : Src' ρ q qo vs) (hl : vs.length = l) (h : stRow σ b o l q qo u = .ok v σ') :
    v = u ∧ (∀ j, j < vs.length → (w.cell? ⟨L.r, L.s + o + j, none⟩).isSome = true) ∧ (∀ j, j < vs.length → w.frozen? ⟨L.r, L.s + o + j, none⟩ = false) ∧ (∀ v ∈ vs, v.oneCell' = true) ∧ RS ρ σ' (w.setCells L.r (L.s + o) vs) ∧ Step σ ρ w σ' ρ (w.setCells L.r (L.s + o) vs) := by
  unfold stRow at h
  obtain ⟨tt, N, r, ek, h⟩ := onCells_some h RA.ne
  obtain ⟨c0, h⟩ := boolRA_ok h
  have c0 : o + l ≤ N := Nat.le_of_ble_eq_true c0
  obtain ⟨r', hr', h⟩ := orRA_ok h
  cases h
  obtain ⟨q1, q2, q3⟩ := hq
  have hone : ∀ v ∈ vs, v.oneCell' = true := fun v hv => by
    obtain ⟨j, hj⟩ := List.getElem?_of_mem hv
    obtain ⟨_, _, _, h⟩ := (Rw_get _ _ _).1 (q3 j v hj)
    exact h
  have hb := hs.blk b L eL
  rw [ek] at hb
  obtain ⟨_, _, _, _, _, _, _, g4, g5, _⟩ := hb
  refine ⟨rfl, ?_⟩
  have key : r'.good ∧ N ≤ r'.cap ∧ (∀ j y, vs[j]? = some y → Rw ρ r' (o + j) y) ∧ (∀ j, j < N → (j < o ∨ o + vs.length ≤ j) → ∀ u, r.get j = .ok u → r'.get j = .ok u) := by
    cases hc : (Nat.beq o qo && Nat.beq l N && Nat.beq o 0) with
    | true =>
      rw [hc] at hr'
      cases hr'
      obtain ⟨c1, c2⟩ := Bool.and_eq_true_iff.1 hc
      obtain ⟨c1, c3⟩ := Bool.and_eq_true_iff.1 c1
      have c1 : o = qo := Nat.eq_of_beq_eq_true c1
      have c2 : o = 0 := Nat.eq_of_beq_eq_true c2
      have c3 : l = N := Nat.eq_of_beq_eq_true c3
      refine ⟨q1, by omega, fun j y hy => by rw [c1]; exact q3 j y hy, fun j hj hor => by omega⟩
    | false =>
      rw [hc] at hr'
      obtain ⟨s1, s2, s3, s4, s5⟩ := Row.copy_spec l r o q qo r' hr' g4 (by omega)
      refine ⟨s1, by omega, fun j y hy => ?_, fun j hj hor u hu => s5 j (by omega) (by omega) u hu⟩
      have hj : j < l := by
        rcases Nat.lt_or_ge j l with g | g
        · exact g
        · rw [List.getElem?_eq_none (by omega)] at hy; cases hy
      obtain ⟨a, a1, a2⟩ := s4 j hj
      exact Rw_congr (a1.trans a2.symm) (q3 j y hy)
  obtain ⟨k1, k2, k3, k4⟩ := key
  obtain ⟨m1, m2, m3, m4⟩ := storeRow_ok (vs := vs) hs eL ek hone (by omega) k1 k2 k3 k4
  exact ⟨m1, m2, hone, m3, m4⟩
theorem stN_ok {n : Nat} (hs : RS ρ σ w) (hn : sizeA P t = some n) (hx : Rv ρ (x T) X) (hy : Rv ρ (y T) Y) (h : stN n x y T σ = .ok v σ') : v = undefA ∧ ∃ w', (Instr.storeAt t X Y).run P w = .ok () w' ∧ RS ρ σ' w' ∧ Step σ ρ w σ' ρ w' := by
  unfold stN at h
  obtain ⟨b, o, e1, h⟩ := onP_some h RA.ne
  obtain ⟨m, q, e2, h⟩ := onAgg_some h RA.ne
  obtain ⟨c0, h⟩ := boolRA_ok h
  have c0 : m = n := Nat.eq_of_beq_eq_true c0
  rw [e1] at hx; rw [e2] at hy
  obtain ⟨L, eL, rfl⟩ := hx
  obtain ⟨cs, rfl, y1, y2, y3, y4⟩ := hy
  obtain ⟨k0, k1, k2, k3, k4, k5⟩ := stRow_ok (vs := cs) hs eL ⟨y2, by omega, fun j z hz => by rw [Nat.zero_add]; exact y4 j z hz⟩ y1 h
  exact ⟨k0, _, storeAt_run (L := L) (o := o) hn (by show cs.toArray.size = n; simp; omega) (by simpa [Value.cells] using k1) (by simpa [Value.cells] using k2) (by simpa [Value.cells] using k3), by simpa [Value.cells] using k4, by simpa [Value.cells] using k5⟩
theorem cv_bs_ok {src e : TypeId} {d : TypeDesc} {dst : TypeId} (hu : P.underlying src = some d) (hd : P.underlying dst = some (.slice e)) (he : P.underlying e = some (.int .u8)) (hx : Rv ρ (x T) X) (h : cv_bs e x T = .ok k f) : ∃ u w', (convert src dst X).run P w = .ok u w' ∧ NRes ρ w k f u w' := by
  unfold cv_bs at h
  obtain ⟨l, m, e1, h⟩ := onS_some h NB.ne
  rw [e1] at hx
  obtain ⟨rfl, h1, h2⟩ := hx
  cases h
  have hge := grownCap_ge w l 0 e
  have hle := grownCap_le_maxLen w l 0 e (by rw [maxLen_eq]; exact h2)
  refine ⟨_, _, Lib.run_convert_string_bytes w src dst e _ hu hd he, rfl, rfl, rfl, by rw [Lib.bytesWorld_size]; omega, Lib.bytesWorld_at_old w e _, ⟨w.heap.size, grownCap w l 0 e, w.heap.size⟩, Nat.le_refl _, Nat.le_refl _, fun ρ' b hs hb => ⟨⟨rfl, _, _, Lib.bytesWorld_at_new w e _, ?_, ?_, .inr (Nat.le_refl _), h1, fun i hi => ?_⟩, ?_⟩⟩
  · simp [Lib.bytesCells, strOf_size]; omega
  · simp [Lib.bytesCells, strOf_size]
  · have hi2 : i < ((strOf l m).data.map fun b => Value.int .u8 b.toNat).size := by simp [strOf_size]; exact hi
    show (Lib.bytesCells w e (strOf l m))[0 + i]? = _
    rw [Nat.zero_add]
    unfold Lib.bytesCells
    rw [Array.getElem?_append_left hi2]
    have e2 : (strOf l m).data[i]? = some (UInt8.ofNat (bitsAt 8 l m i 1)) := by
      rw [← Array.getElem?_toList, strOf_list, List.getElem?_map, List.getElem?_range hi]; rfl
    rw [Array.getElem?_map, e2]
    have hb : bitsAt 8 l m i 1 < 256 := by have := bitsAt_lt 8 l m i 1; simpa using this
    show some (Value.int .u8 ((UInt8.ofNat (bitsAt 8 l m i 1)).toNat : Int)) = some (.int .u8 (.ofNat (bitsAt 8 l m i 1)))
    rw [UInt8.toNat_ofNat', Nat.mod_eq_of_lt hb]; rfl
  · refine ⟨_, grownCap w l 0 e, 0, hb, by rw [strOf_size], .inl rfl, Nat.le_refl _, hge, fun h => (by cases h), hle, by show 0 + 0 + grownCap w l 0 e * 1 ≤ grownCap w l 0 e; omega⟩
end
end Go.Proofs.YtaogloegiffioaaGreatDoor
namespace Go.Proofs.YtaogloegiffioaaGreatDoor
theorem growBy_le (need : Nat) : ∀ (r c : Nat), 256 ≤ c → c ≤ 2 * need → Builtin.growBy need r c ≤ 2 * need
  | 0, c, _, h => h
  | r + 1, c, h0, h => by
    unfold Builtin.growBy
    split
    · exact h
    · exact growBy_le need r _ (by omega) (by omega)
theorem nextcap_le {need old : Nat} (h : old < need) : Builtin.nextslicecap need old ≤ 2 * need := by
  unfold Builtin.nextslicecap
  split
  · omega
  · split
    · omega
    · exact growBy_le need 4 old (by omega) (by omega)
theorem fit_ok {l by_ : Nat} (h : apFit l by_ = true) : l * by_ ≤ 140737488355328 := Nat.le_of_ble_eq_true h
theorem fit_next {need old by_ : Nat} (h : old < need) (hf : apFit need by_ = true) : Builtin.nextslicecap need old * by_ ≤ 281474976710656 := by
  have h1 := nextcap_le h
  have h2 := fit_ok hf
  have : Builtin.nextslicecap need old * by_ ≤ 2 * need * by_ := Nat.mul_le_mul_right _ h1
  rw [Nat.mul_assoc] at this; omega
theorem move_ok {ρ : Pl} {σ : St} {w w' : World} (h : RS ρ σ w) {b : Bid} {L : Loc} {k : Blk} (hl : Live σ ρ b L) (hn : notLast σ.nx = true) (hk : RB (pext ρ σ.nx L) w' L k) (hq : L.q = L.r)
    (hos : w'.os = w.os) (ht : w'.tape = w.tape) (ho : w'.output = w.output) (hz : w'.heap.size = w.heap.size) (hf : ∀ r, ¬ Own L r → w'.heap[r]? = w.heap[r]?) :
    RS (pext ρ σ.nx L) ((σ.put b .dead).new k) w' ∧ Step σ ρ w ((σ.put b .dead).new k) (pext ρ σ.nx L) w' := by
  have hfr := h.fresh
  have hsub : Sub ρ (pext ρ σ.nx L) := ext_sub hfr
  have hnx : ((σ.put b .dead).new k).nx.num = σ.nx.num + 1 := Bid.next_num hn
  have hat : ∀ b', ((σ.put b .dead).new k).h.at b' = if b' = σ.nx then k else if b' = b then .dead else σ.h.at b' := fun b' => by
    rw [St.new_at, St.put_at]; rfl
  have hbn : b ≠ σ.nx := fun e => by rw [e] at hl; rw [hl.1] at hfr; cases hfr
  have hlive : ∀ b' L', Live ((σ.put b .dead).new k) (pext ρ σ.nx L) b' L' → (b' = σ.nx ∧ L' = L) ∨ (b' ≠ σ.nx ∧ b' ≠ b ∧ Live σ ρ b' L') := by
    rintro b' L' ⟨e, hu⟩
    by_cases hb : b' = σ.nx
    · subst hb; rw [ext_self] at e; cases e; exact .inl ⟨rfl, rfl⟩
    · unfold pext at e; rw [if_neg hb] at e
      rw [hat, if_neg hb] at hu
      by_cases hb2 : b' = b
      · rw [if_pos hb2] at hu; exact hu.elim
      · rw [if_neg hb2] at hu; exact .inr ⟨hb, hb2, e, hu⟩
  refine ⟨⟨?_, ?_, ?_, ?_⟩, ⟨hos, ht, ho, hsub, by omega, fun r hr hno => hf r fun o => hno b L hl o, ?_, by omega, ?_, ?_⟩⟩
  · intro b' L' e
    rw [hat]
    by_cases hb : b' = σ.nx
    · subst hb; rw [ext_self] at e; cases e; rw [if_pos rfl]; exact hk
    · unfold pext at e; rw [if_neg hb] at e
      rw [if_neg hb]
      by_cases hb2 : b' = b
      · rw [if_pos hb2]; trivial
      · rw [if_neg hb2]
        have hb3 := h.blk b' L' e
        generalize hkk : σ.h.at b' = k' at *
        by_cases hd : k'.used
        · have hl' : Live σ ρ b' L' := ⟨e, by rw [hkk]; exact hd⟩
          exact hb3.mono hsub (hf _ fun o => h.inj b' b L' L _ hb2 hl' hl (.inl rfl) o) (hf _ fun o => h.inj b' b L' L _ hb2 hl' hl (.inr rfl) o)
        · cases k' <;> first | trivial | exact absurd trivial hd
  · intro b1 b2 L1 L2 r hne h1 h2 o1 o2
    rcases hlive b1 L1 h1 with ⟨e1, e2⟩ | ⟨e1, e1', l1⟩ <;> rcases hlive b2 L2 h2 with ⟨g1, g2⟩ | ⟨g1, g1', l2⟩
    · exact hne (e1.trans g1.symm)
    · subst e2; exact h.inj b b2 _ L2 r (Ne.symm g1') hl l2 o1 o2
    · subst g2; exact h.inj b1 b L1 _ r e1' l1 hl o1 o2
    · exact h.inj b1 b2 L1 L2 r hne l1 l2 o1 o2
  · intro b' L' e
    rw [hnx]
    by_cases hb : b' = σ.nx
    · subst hb; omega
    · unfold pext at e; rw [if_neg hb] at e; have := h.dom b' L' e; omega
  · intro b' hb
    rw [hnx] at hb
    rw [hat, if_neg (fun e => by subst e; omega), if_neg (fun e => by subst e; have := h.dom _ _ hl.1; omega)]
    exact h.free b' (by omega)
  · intro b' L' r hl' ho'
    rcases hlive b' L' hl' with ⟨e1, e2⟩ | ⟨e1, e1', l1⟩
    · subst e2; exact .inr ⟨b, _, hl, ho'⟩
    · exact .inr ⟨b', L', l1, ho'⟩
  · intro b' L' e
    by_cases hb : b' = σ.nx
    · subst hb; exact .inr (Nat.le_refl _)
    · unfold pext at e; rw [if_neg hb] at e; exact .inl e
  · intro b' hb hnone
    rw [hat, if_neg (fun e => by subst e; omega), if_neg (fun e => by subst e; rw [hl.1] at hnone; cases hnone)]
section
variable {P : Program} {ρ : Pl} {x y : G} {T : Tm} {σ σ' : St} {s v : AV} {X Y S : Value} {t tx ty : TypeId} {w : World}
theorem alR_ok {k : Blk} {f : Bid → AV} {σ1 : St} (h : alR σ1 k f = .ok v σ') : notLast σ1.nx = true ∧ v = f σ1.nx ∧ σ' = σ1.new k := by
  obtain ⟨h1, h⟩ := boolRA_ok h
  cases h; exact ⟨h1, rfl, rfl⟩
theorem dead_ok (hs : RS ρ σ w) {b : Bid} {L : Loc} (hl : Live σ ρ b L) : RS ρ (σ.put b .dead) w ∧ Step σ ρ w (σ.put b .dead) ρ w :=
  put_ok hs hl trivial rfl rfl rfl (Nat.le_refl _) fun _ _ _ => rfl
theorem drew_facts (w : World) : w.drew.heap = w.heap ∧ w.drew.os = w.os ∧ w.drew.tape = w.tape ∧ w.drew.output = w.output := ⟨rfl, rfl, rfl, rfl⟩
theorem nres_drew {k : Blk} {f : Bid → AV} {x : Value} {w' : World} (h : NRes ρ w.drew k f x w') : NRes ρ w k f x w' := h
theorem zeroCells_list (z : Array Value) (n : Nat) : ∃ l : List Value, Builtin.zeroCells z n = l.toArray := ⟨_, (Array.toArray_toList).symm⟩
theorem src_one {q : Row} {qo : Nat} {vs : List Value} (hq : Src' ρ q qo vs) : ∀ u ∈ vs, u.oneCell' = true := fun u hu => by
  obtain ⟨j, hj⟩ := List.getElem?_of_mem hu
  obtain ⟨_, _, _, h⟩ := (Rw_get _ _ _).1 (hq.2.2 j u hj)
  exact h
theorem grown_row {r r' q : Row} {olds vs : List Value} {n k qo : Nat} (hr : RowOf ρ r olds) (hn : olds.length = n) (hk : vs.length = k) (hq : Src' ρ q qo vs) (h : Row.copy k r n q qo = .ok r') : RowOf ρ r' (olds ++ vs) := by
  obtain ⟨r1, r2, r3⟩ := hr
  obtain ⟨q1, q2, q3⟩ := hq
  obtain ⟨s1, s2, s3, s4, s5⟩ := Row.copy_spec k r n q qo r' h r1 (by omega)
  refine ⟨s1, by simp; omega, fun i y hy => ?_⟩
  by_cases hi : i < n
  · rw [List.getElem?_append_left (by omega)] at hy
    obtain ⟨u, u1, u2, u3⟩ := (Rw_get _ _ _).1 (r3 i y hy)
    exact (Rw_get _ _ _).2 ⟨u, s5 i (by omega) (.inl hi) u u1, u2, u3⟩
  · rw [List.getElem?_append_right (by omega), hn] at hy
    have hj : i - n < k := by
      rcases Nat.lt_or_ge (i - n) k with g | g
      · exact g
      · rw [List.getElem?_eq_none (by omega)] at hy; cases hy
    obtain ⟨a, a1, a2⟩ := s4 _ hj
    rw [show n + (i - n) = i by omega] at a2
    exact Rw_congr (a1.trans a2.symm) (q3 _ _ hy)
theorem grow_run {e : Nat} {i : TypeInfo} {z : Value} (hu : P.underlying t = some (.slice e)) (hi : P.info? e = some i) (hz : i.zero = some z) {base : Option Addr} {sLen sCap k : Nat} {olds vs : List Value}
    (hold : (Builtin.firstCells i.size sLen (.slice base sLen sCap)).run P w.drew = .ok olds.toArray w.drew) (hsrc : Src P i.size tx X k vs w) (hg : sCap < sLen + k) (hf : apFit (sLen + k) i.bytes = true) (hb : 0 < i.bytes) :
    ∃ c ex, sLen + k ≤ c ∧ c ≤ maxLen ∧ (Builtin.append_ #[t, tx] ty #[.slice base sLen sCap, X]).run P w = .ok (.slice (some ⟨w.heap.size, 0, none⟩) (sLen + k) c) (w.drew.alloc (.cells ((olds ++ vs) ++ ex).toArray e)) ∧ ex = (Builtin.zeroCells z.cells (c - (sLen + k))).toList := by
  have h1 := fit_ok hf
  have h2 : sLen + k ≤ 140737488355328 := Nat.le_trans (Nat.le_mul_of_pos_right _ hb) h1
  refine ⟨grownCap w (sLen + k) sCap e, _, grownCap_ge _ _ _ _, grownCap_le_maxLen _ _ _ _ (by rw [maxLen_eq]; omega), ?_, rfl⟩
  rw [run_append_grow_src w t tx ty e i z hu hi hz base sLen sCap olds hold X k vs hsrc hg (by omega) (fit_next hg hf)]
  congr 2
  congr 1
  apply Array.ext'
  simp
structure AS (P : Program) (t tx ty e : TypeId) (i : TypeInfo) (z : Value) (X : Value) (k : Nat) (vs : List Value) (w : World) : Prop where
  len : vs.length = k * i.size
  room : ∀ b off sLen sCap : Nat, sLen + k ≤ sCap → (∀ j, j < vs.length → (w.cell? ⟨b, off + sLen * i.size + j, none⟩).isSome = true) → (∀ j, j < vs.length → w.frozen? ⟨b, off + sLen * i.size + j, none⟩ = false) →
    (Builtin.append_ #[t, tx] ty #[.slice (some ⟨b, off, none⟩) sLen sCap, X]).run P w = .ok (.slice (some ⟨b, off, none⟩) (sLen + k) sCap) (w.setCells b (off + sLen * i.size) vs)
  nada : k = 0 → ∀ (base : Option Addr) (sLen sCap : Nat), sLen ≤ sCap → (Builtin.append_ #[t, tx] ty #[.slice base sLen sCap, X]).run P w = .ok (.slice base sLen sCap) w
  grow : ∀ (base : Option Addr) (sLen sCap : Nat) (olds : List Value), (Builtin.firstCells i.size sLen (.slice base sLen sCap)).run P w.drew = .ok olds.toArray w.drew → 0 < k → sCap < sLen + k → apFit (sLen + k) i.bytes = true → 0 < i.bytes →
    ∃ c ex, sLen + k ≤ c ∧ c ≤ maxLen ∧ (Builtin.append_ #[t, tx] ty #[.slice base sLen sCap, X]).run P w = .ok (.slice (some ⟨w.heap.size, 0, none⟩) (sLen + k) c) (w.drew.alloc (.cells ((olds ++ vs) ++ ex).toArray e)) ∧ ex = (Builtin.zeroCells z.cells (c - (sLen + k))).toList
theorem AS.of_src {e : Nat} {i : TypeInfo} {z : Value} {k : Nat} {vs : List Value} (hu : P.underlying t = some (.slice e)) (hi : P.info? e = some i) (hz : i.zero = some z) (hs : Src P i.size tx X k vs w) : AS P t tx ty e i z X k vs w where
  len := hs.newsLen
  room := fun b off sLen sCap h1 h2 h3 => run_append_room_src w t tx ty e i hu hi b off sLen sCap X k vs hs h1 h2 h3
  nada := fun h0 base sLen sCap h1 => by
    subst h0
    have : vs = [] := List.eq_nil_of_length_eq_zero (by rw [hs.newsLen, Nat.zero_mul])
    subst this
    exact run_append_nothing w t tx ty e i hu hi base sLen sCap h1 X hs
  grow := fun base sLen sCap olds h1 _ h2 h3 h4 => grow_run hu hi hz h1 hs h2 h3 h4
theorem apRow_ok {e k : Nat} {i : TypeInfo} {z : Value} {q : Row} {qo : Nat} {vs : List Value} (hs : RS ρ σ w) (hu : P.underlying t = some (.slice e)) (hi : P.info? e = some i) (hz : i.zero = some z) (hzs : z.cells.size = i.size) (hb : 0 < i.bytes)
    (hx : Rv ρ s S) (hsrc : AS P t tx ty e i z X k vs w) (hq : Src' ρ q qo vs) (h : apRow e i.size i.bytes σ s q qo k = .ok v σ') : ∃ u w', (Builtin.append_ #[t, tx] ty #[S, X]).run P w = .ok u w' ∧ RRes σ ρ w v σ' u w' := by
  have hvl := hsrc.len
  have hzl : ∀ c, (Builtin.zeroCells z.cells c).toList.length = c * i.size := fun c => by simp [Builtin.zeroCells, hzs]
  unfold apRow at h
  rcases onSl_or h with ⟨b, o, l, c, w', kn, e1, h⟩ | h
  · obtain ⟨c0, h⟩ := boolRA_ok h
    obtain ⟨c0, c1⟩ := Bool.and_eq_true_iff.1 c0
    have c0 : i.size = w' := Nat.eq_of_beq_eq_true c0
    rw [e1] at hx
    obtain ⟨L, c', a, eL, rfl, ha, g1, g2, g3, g4, g5⟩ := hx
    rw [← c0] at g5
    cases hroom : Nat.ble (Nat.add l k) c with
    | true =>
      rw [hroom] at h
      have hr : l + k ≤ c := Nat.le_of_ble_eq_true hroom
      obtain ⟨k0, k1, k2, k3, k4, k5⟩ := stRow_ok (vs := vs) hs eL hq hvl h
      subst k0
      by_cases hc0 : c' = 0
      · have hk0 : k = 0 := by omega
        have hv0 : vs = [] := List.eq_nil_of_length_eq_zero (by rw [hvl, hk0, Nat.zero_mul])
        subst hv0 hk0
        refine ⟨_, w, hsrc.nada rfl _ l c' (by omega), ρ, ⟨L, c', a, eL, rfl, ha, by show l + 0 ≤ c; omega, g2, g3, g4, g5⟩, k4, k5⟩
      · have ha : a = L.s + o := ha.resolve_right hc0
        subst ha
        have e2 : L.s + o + l * i.size = L.s + (o + l * i.size) := by omega
        refine ⟨_, _, hsrc.room L.r (L.s + o) l c' (by omega) (fun j hj => by rw [e2]; exact k1 j hj) (fun j hj => by rw [e2]; exact k2 j hj), ρ, ⟨L, c', L.s + o, eL, rfl, .inl rfl, hr, g2, g3, g4, g5⟩, ?_, ?_⟩
        · rw [e2]; exact k4
        · rw [e2]; exact k5
    | false =>
      rw [hroom] at h
      have hr : c < l + k := by
        rcases Nat.lt_or_ge c (l + k) with g | g
        · exact g
        · rw [show Nat.ble (Nat.add l k) c = true from Nat.ble_eq_true_of_le g] at hroom; cases hroom
      obtain ⟨tt, N, r, ek, h⟩ := onCells_some h RA.ne
      have hbk := hs.blk b L eL
      rw [ek] at hbk
      cases kn with
      | true =>
        have hcc := g3 rfl
        obtain ⟨d0, h⟩ := boolRA_ok h
        have d0 : o + l * i.size ≤ N := Nat.le_of_ble_eq_true d0
        obtain ⟨r1, hr1, h⟩ := orRA_ok h
        obtain ⟨r2, hr2, h⟩ := orRA_ok h
        obtain ⟨hlast, rfl, rfl⟩ := alR_ok h
        obtain ⟨p1, p2, p3, olds, o1, o2, o3⟩ := row_ok hbk d0
        obtain ⟨q1, q2, q3⟩ := Row.cut_spec hr1 p1 p2 p3
        have q2 : l * i.size ≤ r1.cap := q2
        have o1 : olds.length = l * i.size := o1
        have hrow : RowOf ρ r1 olds := ⟨q1, by omega, fun j y hy => by
          have hj : j < l * i.size := by
            rcases Nat.lt_or_ge j (l * i.size) with g | g
            · exact g
            · rw [List.getElem?_eq_none (by omega)] at hy; cases hy
          exact Rw_congr (q3 j hj).symm (o2 j y hy)⟩
        have hrow2 := grown_row hrow o1 hvl hq hr2
        have hold : (Builtin.firstCells i.size l (.slice (some ⟨L.r, a, none⟩) l c')).run P w.drew = .ok olds.toArray w.drew := run_firstCells_some w.drew i.size l ⟨L.r, a, none⟩ l c' olds o1 (fun j y hy => by
          have hj : j < l * i.size := by
            rcases Nat.lt_or_ge j (l * i.size) with g | g
            · exact g
            · rw [List.getElem?_eq_none (by omega)] at hy; cases hy
          have hl0 : c' ≠ 0 := fun h0 => by
            have : l = 0 := by omega
            rw [this, Nat.zero_mul] at hj; omega
          rw [ha.resolve_right hl0, add_ad]
          exact o3 j y hy)
        obtain ⟨nc, ex, n1, n2, n3, n4⟩ := hsrc.grow _ _ _ _ hold (show 0 < k by omega) (show c' < l + k by omega) c1 hb
        refine ⟨_, _, n3, ?_⟩
        have hex : ex.length = (nc - (l + k)) * i.size := by rw [n4, hzl]
        have hlen : (olds ++ vs).length = (l + k) * i.size := by simp [o1, hvl, Nat.add_mul]
        have hN : (l + k) * i.size + ex.length = nc * i.size := by rw [hex, ← Nat.add_mul]; congr 1; omega
        exact nres_ok hs hlast (NRes.row (ρ := ρ) (w := w.drew) (fr := (0, 0)) hrow2 hlen (.inl rfl) (fun ρ' b hb => slW_new (w := w) n1 n2 (by show nc * i.size ≤ (l + k) * i.size + ex.length; omega) ρ' b hb))
      | false =>
        obtain ⟨d0, h⟩ := boolRA_ok h
        obtain ⟨d0, d1⟩ := Bool.and_eq_true_iff.1 d0
        obtain ⟨d1, d2⟩ := Bool.and_eq_true_iff.1 d1
        have d0 : tt = e := Nat.eq_of_beq_eq_true d0
        have d1 : o = 0 := Nat.eq_of_beq_eq_true d1
        have d2 : l * i.size = N := Nat.eq_of_beq_eq_true d2
        rw [d0] at ek hbk
        obtain ⟨r2, hr2, h⟩ := orRA_ok h
        obtain ⟨hlast, rfl, rfl⟩ := alR_ok h
        have hlast : notLast σ.nx = true := hlast
        have hl : Live σ ρ b L := ⟨eL, by rw [ek]; trivial⟩
        obtain ⟨p1, p2, p3, olds, o1, o2, o3⟩ := row_ok (o := 0) (n := N) hbk (by omega)
        have hrow : RowOf ρ r olds := ⟨p1, by omega, fun j y hy => by have := o2 j y hy; rwa [Nat.zero_add] at this⟩
        have hrow2 := grown_row hrow o1 hvl hq hr2
        by_cases hin : l + k ≤ c'
        · -- in place
          by_cases hc0 : c' = 0
          · omega
          · have ha : a = L.s := by have := ha.resolve_right hc0; rw [d1] at this; exact this
            subst ha
            obtain ⟨e0, arr, fr, ew, b1, b2, b3, b4, b5, b6⟩ := hbk
            have hfit : L.s + (l + k) * i.size ≤ arr.size := by
              have : (l + k) * i.size ≤ c' * i.size := Nat.mul_le_mul_right _ hin
              omega
            have hlk : (l + k) * i.size = N + vs.length := by rw [Nat.add_mul, hvl, d2]
            obtain ⟨arr', ew', z', g'⟩ := heap_setCells L.r e fr vs (L.s + N) w arr ew
            obtain ⟨s1, s2, s3, s4, s5⟩ := setCells_rest L.r vs (L.s + N) w
            have hrun := hsrc.room L.r L.s l c' hin (fun j hj => by rw [d2, cell_of ew, Array.getElem?_eq_getElem (by omega)]; rfl) (fun j hj => by rw [d2]; exact frozen_of ew b3 (by omega))
            rw [d2] at hrun
            have hkb : RB (pext ρ σ.nx L) (w.setCells L.r (L.s + N) vs) L (.cells e (N + k * i.size) r2) := by
              refine ⟨e0, arr', fr, ew', by omega, by omega, by rw [z']; exact b3, hrow2.1, by have := hrow2.2.1; simp at this; omega, fun j hj => ?_⟩
              rw [g' (L.s + j) (by omega)]
              by_cases hjN : j < N
              · rw [if_neg (by omega)]
                obtain ⟨y, ey, hy⟩ := b6 j hjN
                have hoj : olds[j]? = some y := by
                  have h1 := List.getElem?_eq_getElem (l := olds) (i := j) (by omega)
                  have h2 := o3 j _ h1
                  rw [cell_of ew] at h2
                  rw [h1]; rw [show L.s + 0 + j = L.s + j by omega, ey] at h2; exact h2.symm
                exact ⟨y, ey, Rw.mono (ext_sub hs.fresh) _ _ _ (hrow2.2.2 j y (by rw [List.getElem?_append_left (by omega)]; exact hoj))⟩
              · have hlt : j - N < vs.length := by omega
                rw [if_pos (by omega), show L.s + j - (L.s + N) = j - N by omega]
                have h1 := List.getElem?_eq_getElem (l := vs) (i := j - N) hlt
                exact ⟨_, h1, Rw.mono (ext_sub hs.fresh) _ _ _ (hrow2.2.2 j _ (by rw [List.getElem?_append_right (by omega), o1]; exact h1))⟩
            obtain ⟨m1, m2⟩ := move_ok hs hl hlast hkb e0 s1 s2 s3 s4 (fun r hr => s5 r (not_own e0 hr))
            exact ⟨_, _, hrun, pext ρ σ.nx L, ⟨L, c', L.s, ext_self _ _ _, rfl, .inl rfl, Nat.le_refl _, hin, fun h => (by cases h), g4, by rw [d1] at g5; exact g5⟩, m1, m2⟩
        · have hold : (Builtin.firstCells i.size l (.slice (some ⟨L.r, a, none⟩) l c')).run P w.drew = .ok olds.toArray w.drew := run_firstCells_some w.drew i.size l ⟨L.r, a, none⟩ l c' olds (by omega) (fun j y hy => by
            have hj : j < N := by
              rcases Nat.lt_or_ge j N with g | g
              · exact g
              · rw [List.getElem?_eq_none (by omega)] at hy; cases hy
            have hl0 : c' ≠ 0 := fun h0 => by
              have : l = 0 := by omega
              rw [this, Nat.zero_mul] at d2; omega
            rw [ha.resolve_right hl0, d1, add_ad]
            exact o3 j y hy)
          obtain ⟨nc, ex, n1, n2, n3, n4⟩ := hsrc.grow _ _ _ _ hold (show 0 < k by omega) (show c' < l + k by omega) c1 hb
          refine ⟨_, _, n3, ?_⟩
          have hex : ex.length = (nc - (l + k)) * i.size := by rw [n4, hzl]
          have hlen : (olds ++ vs).length = N + k * i.size := by simp [o1, hvl]
          have hN : N + k * i.size + ex.length = nc * i.size := by rw [hex, ← d2]; show l * i.size + k * i.size + _ = _; rw [← Nat.add_mul, ← Nat.add_mul]; congr 1; omega
          obtain ⟨t1, t2⟩ := dead_ok hs hl
          obtain ⟨ρ', v1, v2, v3⟩ := nres_ok (σ := σ.put b .dead) t1 hlast (NRes.row (ρ := ρ) (w := w.drew) (fr := (0, 0)) hrow2 hlen (.inl rfl) (fun ρ' b hb => slW_new (w := w) n1 n2 (by show nc * i.size ≤ N + k * i.size + ex.length; omega) ρ' b hb))
          exact ⟨ρ', v1, v2, t2.trans v3⟩
  · obtain ⟨u, e1, h⟩ := onLit_some h RA.ne
    obtain ⟨c0, h⟩ := boolRA_ok h
    obtain ⟨c0, c1⟩ := Bool.and_eq_true_iff.1 c0
    have := vSl00_ok c0
    rw [this] at e1
    rw [e1] at hx
    have hx' : S = _ := hx
    rw [hx']
    cases hk0 : Nat.beq k 0 with
    | true =>
      rw [hk0] at h
      have hk0 : k = 0 := Nat.eq_of_beq_eq_true hk0
      cases h
      refine ⟨_, w, hsrc.nada hk0 none 0 0 (Nat.le_refl _), ρ, by rw [e1]; rfl, hs, Step.refl _ _ _⟩
    | false =>
      rw [hk0] at h
      have hk0 : 0 < k := Nat.pos_of_ne_zero fun e => by rw [e] at hk0; cases hk0
      obtain ⟨r1, hr1, h⟩ := orRA_ok h
      obtain ⟨hlast, rfl, rfl⟩ := alR_ok h
      obtain ⟨q1, q2, q3⟩ := hq
      obtain ⟨s1, s2, s3⟩ := Row.cut_spec hr1 q1 (show qo + k * i.size ≤ q.cap by omega) (fun j hj => by
        have hj : j < k * i.size := hj
        have h1 := List.getElem?_eq_getElem (l := vs) (i := j) (by omega)
        obtain ⟨a, a1, _⟩ := (Rw_get _ _ _).1 (q3 j _ h1)
        exact ⟨a, a1⟩)
      have s2 : k * i.size ≤ r1.cap := s2
      have hrow : RowOf ρ r1 ([] ++ vs) := ⟨s1, by rw [List.nil_append]; omega, fun j y hy => by
        have hj : j < k * i.size := by
          rcases Nat.lt_or_ge j (k * i.size) with g | g
          · exact g
          · rw [List.nil_append, List.getElem?_eq_none (by omega)] at hy; cases hy
        exact Rw_congr (s3 j hj).symm (q3 j y hy)⟩
      have hold : (Builtin.firstCells i.size 0 (.slice none 0 0)).run P w.drew = .ok ([] : List Value).toArray w.drew := run_firstCells_none w.drew i.size 0 0 0
      have c1' : apFit (0 + k) i.bytes = true := by rw [Nat.zero_add]; exact c1
      obtain ⟨nc, ex, n1, n2, n3, n4⟩ := hsrc.grow _ _ _ _ hold (show 0 < k by omega) (show 0 < 0 + k by omega) c1' hb
      rw [Nat.zero_add] at n1 n3 n4
      refine ⟨_, _, n3, ?_⟩
      have hex : ex.length = (nc - k) * i.size := by rw [n4, hzl]
      have hlen : ([] ++ vs).length = k * i.size := by simp [hvl]
      have hN : k * i.size + ex.length = nc * i.size := by rw [hex, ← Nat.add_mul]; congr 1; omega
      exact nres_ok hs hlast (NRes.row (ρ := ρ) (w := w.drew) (fr := (0, 0)) hrow hlen (.inl rfl) (fun ρ' b hb => slW_new (w := w) n1 n2 (by show nc * i.size ≤ k * i.size + ex.length; omega) ρ' b hb))
end
end Go.Proofs.YtaogloegiffioaaGreatDoor
namespace Go.Proofs.YtaogloegiffioaaGreatDoor
section
variable {P : Program} {ρ : Pl} {x y : G} {T : Tm} {σ σ' : St} {s v : AV} {X Y S : Value} {t tx ty : TypeId} {w : World}
theorem rowSrc_ok {wd : Nat} {e' : TypeId} {a : AV} {f : Row → Nat → Nat → RA} (hs : RS ρ σ w) (hk : P.underlying tx = some (.slice e')) (hx : Rv ρ a X) (h : rowSrc wd σ a f = .ok v σ') :
    ∃ k vs q qo, f q qo k = .ok v σ' ∧ Src P wd tx X k vs w ∧ Src' ρ q qo vs := by
  unfold rowSrc at h
  rcases onSl_or h with ⟨b, o, l, c, w', kn, e1, h⟩ | h
  · obtain ⟨tt, N, r, ek, h⟩ := onCells_some h RA.ne
    obtain ⟨c0, h⟩ := boolRA_ok h
    have c0 : o + l * wd ≤ N := Nat.le_of_ble_eq_true c0
    rw [e1] at hx
    obtain ⟨L, c', ad, eL, rfl, ha, g1, g2, g3, g4, g5⟩ := hx
    have hb := hs.blk b L eL
    rw [ek] at hb
    obtain ⟨p1, p2, p3, cs, o1, o2, o3⟩ := row_ok hb c0
    have hq : Src' ρ r o cs := ⟨p1, by omega, o2⟩
    refine ⟨l, cs, r, o, h, Src.ofSlice w hk ⟨L.r, ad, none⟩ l c' cs o1 (fun j u hu => ?_) (src_one hq), hq⟩
    have hj : j < l * wd := by
      rcases Nat.lt_or_ge j (l * wd) with g | g
      · exact g
      · rw [List.getElem?_eq_none (by omega)] at hu; cases hu
    have h0 : c' ≠ 0 := fun h0 => by
      have : l = 0 := by omega
      rw [this, Nat.zero_mul] at hj; omega
    rw [ha.resolve_right h0, add_ad]
    exact o3 j u hu
  · obtain ⟨u, e1, h⟩ := onLit_some h RA.ne
    obtain ⟨hv, h⟩ := boolRA_ok h
    obtain ⟨c, rfl⟩ := vSl0_ok hv
    rw [e1] at hx
    rw [show X = _ from hx]
    exact ⟨0, [], .e, 0, h, Src.ofNil w hk c, ⟨⟨0, trivial⟩, by show 0 + 0 ≤ 0; omega, fun j y h => by simp at h⟩⟩
def Dig (κ : PK) (k y : Nat) (vs : List Value) : Prop := vs.length = k ∧ y < 2 ^ (pkw κ * k) ∧ ∀ j u, vs[j]? = some u → u = pkV κ (bitsAt (pkw κ) k y j 1)
theorem Dig.get {κ : PK} {k y : Nat} {vs : List Value} (h : Dig κ k y vs) {j : Nat} (hj : j < k) : vs[j]? = some (pkV κ (bitsAt (pkw κ) k y j 1)) := by
  have h1 := List.getElem?_eq_getElem (l := vs) (i := j) (by have := h.1; omega)
  rw [h1, ← h.2.2 j _ h1]
theorem Dig.one {κ : PK} {k y : Nat} {vs : List Value} (h : Dig κ k y vs) : ∀ u ∈ vs, u.oneCell' = true := fun u hu => by
  obtain ⟨j, hj⟩ := List.getElem?_of_mem hu
  rw [h.2.2 j u hj]; exact pkV_oneCell _ _
theorem pkSrc_ok {κ : PK} {e' : TypeId} {a : AV} {f : Nat → Nat → RA} (hs : RS ρ σ w) (hk : P.underlying tx = some (.slice e')) (hx : Rv ρ a X) (h : pkSrc κ σ a f = .ok v σ') :
    ∃ k vs y, f k y = .ok v σ' ∧ Src P 1 tx X k vs w ∧ Dig κ k y vs := by
  unfold pkSrc at h
  rcases onSl_or h with ⟨b, o, l, c, w', kn, e1, h⟩ | h
  · obtain ⟨κ', tt, n, m, ek, h⟩ := onPk_some h RA.ne
    obtain ⟨c0, h⟩ := boolRA_ok h
    obtain ⟨c0, c1⟩ := Bool.and_eq_true_iff.1 c0
    rw [← pkEq_ok c0] at ek
    have c1 : o + l ≤ n := Nat.le_of_ble_eq_true c1
    rw [e1] at hx
    obtain ⟨L, c', ad, eL, rfl, ha, g1, g2, g3, g4, g5⟩ := hx
    have hb := hs.blk b L eL
    rw [ek] at hb
    obtain ⟨_, arr, fr, e, k1, k2, k3, k4, k5⟩ := hb
    have hd : Dig κ l (bitsAt (pkw κ) n m o l) ((List.range l).map fun j => pkV κ (bitsAt (pkw κ) l (bitsAt (pkw κ) n m o l) j 1)) := ⟨by simp, bitsAt_lt _ _ _ _ _, fun j u hu => by
      have hj : j < l := by
        rcases Nat.lt_or_ge j l with g | g
        · exact g
        · rw [List.getElem?_eq_none (by simp; omega)] at hu; cases hu
      rw [List.getElem?_map, List.getElem?_range hj] at hu
      cases hu; rfl⟩
    refine ⟨l, _, _, h, Src.ofSlice w hk ⟨L.r, ad, none⟩ l c' _ (by simp) (fun j u hu => ?_) hd.one, hd⟩
    have hj : j < l := by
      rcases Nat.lt_or_ge j l with g | g
      · exact g
      · rw [List.getElem?_eq_none (by simp; omega)] at hu; cases hu
    rw [ha.resolve_right (by omega), add_ad, hd.2.2 j u hu, cell_of e, bits_sub (by omega) (by omega), Nat.add_assoc]
    exact k5 (o + j) (by omega)
  · obtain ⟨u, e1, h⟩ := onLit_some h RA.ne
    obtain ⟨hv, h⟩ := boolRA_ok h
    obtain ⟨c, rfl⟩ := vSl0_ok hv
    rw [e1] at hx
    rw [show X = _ from hx]
    exact ⟨0, [], 0, h, Src.ofNil w hk c, ⟨rfl, Nat.two_pow_pos _, fun j u h => by simp at h⟩⟩
theorem txtSrc_ok {a : AV} {f : Nat → Nat → RA} (hk : P.underlying tx = some .string) (hx : Rv ρ a X) (h : txtSrc a f .no = .ok v σ') : ∃ k vs y, f k y = .ok v σ' ∧ Src P 1 tx X k vs w ∧ Dig .u8 k y vs := by
  unfold txtSrc at h
  obtain ⟨l, n, e1, h⟩ := onS_some h RA.ne
  rw [e1] at hx
  obtain ⟨rfl, h1, h2⟩ := hx
  refine ⟨l, byteCells (strOf l n), n, h, by have := Src.ofString w hk (strOf l n); rwa [strOf_size] at this, by rw [byteCells_length, strOf_size], h1, fun j u hu => ?_⟩
  have hj : j < l := by
    rcases Nat.lt_or_ge j l with g | g
    · exact g
    · rw [List.getElem?_eq_none (by rw [byteCells_length, strOf_size]; exact g)] at hu; cases hu
  unfold byteCells at hu
  rw [strOf_list, List.map_map, List.getElem?_map, List.getElem?_range hj] at hu
  cases hu
  have hb : bitsAt 8 l n j 1 < 256 := by have := bitsAt_lt 8 l n j 1; simpa using this
  show Value.int .u8 ((UInt8.ofNat (bitsAt 8 l n j 1)).toNat : Int) = .int .u8 (.ofNat (bitsAt 8 l n j 1))
  rw [UInt8.toNat_ofNat', Nat.mod_eq_of_lt hb]; rfl
theorem AS.zeros {e n : Nat} {i : TypeInfo} {z : Value} {q : IntKind} {d : IntKind} (hu : P.underlying t = some (.slice e)) (hi : P.info? e = some i) (hz : i.zero = some z) (hzs : z.cells.size = i.size) (hk : P.underlying tx = some (.int d)) (hn : n * i.bytes ≤ 140737488355328) (hb : 0 < i.bytes) (h1 : ∀ u ∈ z.cells.toList, u.oneCell' = true) (hs0 : 0 < i.size) :
    AS P t tx ty e i z (.int q (.ofNat n)) n (List.replicate n z.cells.toList).flatten w := by
  have hn2 : n ≤ 140737488355328 := Nat.le_trans (Nat.le_mul_of_pos_right _ hb) hn
  have hwrap : IntKind.i64.wrap (n : Int) = (n : Int) := wrap_in (show n < lim .i64 by show n < 9223372036854775808; omega)
  have hlen : (List.replicate n z.cells.toList).flatten.length = n * i.size := by rw [rep_len]; simp [hzs]
  have hneg : ¬ ((n : Int) < 0) := by omega
  have hbig : ¬ (281474976710656 < (n : Int) * (i.bytes : Int)) := by rw [← Int.natCast_mul]; omega
  have hzc : Builtin.zeroCells z.cells n = ((List.replicate n z.cells.toList).flatten).toArray := by
    apply Array.ext'
    have := zero_cells z.cells i.size n hzs hs0
    unfold Builtin.zeroCells
    rw [hzs]; rw [hzs] at this
    exact this
  have hone : ∀ u ∈ (List.replicate n z.cells.toList).flatten, u.oneCell' = true := fun u hu => by
    obtain ⟨l', h3, h4⟩ := List.mem_flatten.1 hu
    rw [(List.mem_replicate.1 h3).2] at h4
    exact h1 u h4
  have happ : ∀ w' : World, (if n * i.size = 0 then pure #[] else do pure (Builtin.zeroCells (← zeroValue e).cells n) : Sem (Array Value)).run P w' = .ok ((List.replicate n z.cells.toList).flatten).toArray w' := fun w' => by
    split
    · next h0 =>
      have : n = 0 := (Nat.mul_eq_zero.1 h0).resolve_right (by omega)
      subst this; rfl
    · simp [zeroValue, typeInfo, hi, hz, hzc]
  constructor
  · exact hlen
  · intro b off sLen sCap hr hc hf
    have hst := run_storeCells_cells (P := P) b (off + sLen * i.size) ((List.replicate n z.cells.toList).flatten) 0 w (by simpa using hc) (by simpa using hf) hone
    simp only [Nat.add_zero] at hst
    by_cases h0 : n * i.size = 0
    · have : n = 0 := (Nat.mul_eq_zero.1 h0).resolve_right (by omega)
      subst this
      simp [Builtin.append_, run_underlying hu, run_underlying hk, sizeOf, typeInfo, hi, asInt, asIntOf, show IntKind.i64.wrap 0 = 0 from rfl, hr, storeCells]
      simp at hr
      simp [hr, World.setCells]
    · simp [Builtin.append_, run_underlying hu, run_underlying hk, sizeOf, typeInfo, hi, asInt, asIntOf, hwrap, hneg, hbig, hr, zeroValue, hz, h0, hzc, Addr.add_lit, hst]
  · intro h0 base sLen sCap hle
    subst h0
    cases base <;> simp [Builtin.append_, run_underlying hu, run_underlying hk, sizeOf, typeInfo, hi, asInt, asIntOf, show IntKind.i64.wrap 0 = 0 from rfl, hle, storeCells]
  · intro base sLen sCap olds hold hk0 hg hf hb'
    have h2 := fit_ok hf
    have h3 : sLen + n ≤ 140737488355328 := Nat.le_trans (Nat.le_mul_of_pos_right _ hb) h2
    have hnn : ¬ (sLen + n ≤ sCap) := by omega
    have h63' : ¬ (9223372036854775807 < ((sLen : Int) + (n : Int))) := by omega
    have h48' : ¬ (281474976710656 < Builtin.nextslicecap (sLen + n) sCap * i.bytes) := by have := fit_next hg hf; omega
    refine ⟨grownCap w (sLen + n) sCap e, _, grownCap_ge _ _ _ _, grownCap_le_maxLen _ _ _ _ (by rw [maxLen_eq]; omega), ?_, rfl⟩
    have h0 : ¬ n * i.size = 0 := fun h => by rcases Nat.mul_eq_zero.1 h with h | h <;> omega
    simp [Builtin.append_, run_underlying hu, run_underlying hk, sizeOf, typeInfo, hi, asInt, asIntOf, hwrap, hneg, hbig, hnn, h63', h48', zeroValue, hz, h0, hzc, Question.forced, hold, newRow, grownCap]
    congr 2
    apply Array.ext'
    simp
end
end Go.Proofs.YtaogloegiffioaaGreatDoor
namespace Go.Proofs.YtaogloegiffioaaGreatDoor
section
variable {P : Program} {ρ : Pl} {x y : G} {T : Tm} {σ σ' : St} {s v : AV} {X Y S : Value} {t tx ty : TypeId} {w : World}
theorem bits_glue {κ : PK} {n m k z : Nat} {olds vs : List Value} (hm : m < 2 ^ (pkw κ * n)) (ho : olds.length = n) (h1 : ∀ i, i < n → olds[i]? = some (pkV κ (bitsAt (pkw κ) n m i 1))) (hd : Dig κ k z vs) :
    Nat.add (Nat.shiftLeft m (Nat.mul (pkw κ) k)) z < 2 ^ (pkw κ * (n + k)) ∧ (olds ++ vs).length = n + k ∧ ∀ i, i < n + k → (olds ++ vs)[i]? = some (pkV κ (bitsAt (pkw κ) (n + k) (Nat.add (Nat.shiftLeft m (Nat.mul (pkw κ) k)) z) i 1)) := by
  refine ⟨app_lt hm hd.2.1, by simp [ho, hd.1], fun i hi => ?_⟩
  by_cases hin : i < n
  · rw [List.getElem?_append_left (by omega), h1 i hin, bits_app_old hd.2.1 (by omega)]
  · rw [List.getElem?_append_right (by omega), ho, hd.get (by omega)]
    have := bits_app_new (w := pkw κ) (n := n) (k := k) (m := m) (y := z) (i := i - n) (l := 1) hd.2.1 (by omega)
    rw [show n + (i - n) = i by omega] at this
    rw [this]
theorem dig_glue {κ : PK} {k z : Nat} {vs : List Value} (hd : Dig κ k z vs) : ∀ i, i < k → vs[i]? = some (pkV κ (bitsAt (pkw κ) k z i 1)) := fun i hi => hd.get hi
theorem apNum_ok {κ : PK} {e k z : Nat} {i : TypeInfo} {zv : Value} {vs : List Value} (hs : RS ρ σ w) (hi : P.info? e = some i) (hz : i.zero = some zv) (hzs : zv.cells.size = i.size) (h1 : i.size = 1) (hb : 0 < i.bytes)
    (hx : Rv ρ s S) (hsrc : AS P t tx ty e i zv X k vs w) (hd : Dig κ k z vs) (h : apNum κ e i.bytes σ s k z = .ok v σ') : ∃ u w', (Builtin.append_ #[t, tx] ty #[S, X]).run P w = .ok u w' ∧ RRes σ ρ w v σ' u w' := by
  have hvl := hd.1
  have hzl : ∀ c, (Builtin.zeroCells zv.cells c).toList.length = c := fun c => by simp [Builtin.zeroCells, hzs, h1]
  unfold apNum at h
  rcases onSl_or h with ⟨b, o, l, c, w', kn, e1, h⟩ | h
  · obtain ⟨c0, h⟩ := boolRA_ok h
    obtain ⟨c0, c1⟩ := Bool.and_eq_true_iff.1 c0
    have c0 : w' = 1 := Nat.eq_of_beq_eq_true c0
    rw [c0] at e1
    rw [e1] at hx
    obtain ⟨L, c', a, eL, rfl, ha, g1, g2, g3, g4, g5⟩ := hx
    rw [Nat.mul_one] at g5
    obtain ⟨κ', tt, n, m, ek, h⟩ := onPk_some h RA.ne
    obtain ⟨hκ, h⟩ := boolRA_ok h
    rw [← pkEq_ok hκ] at ek
    have hbk := hs.blk b L eL
    rw [ek] at hbk
    have hl : Live σ ρ b L := ⟨eL, by rw [ek]; trivial⟩
    cases hroom : Nat.ble (Nat.add l k) c with
    | true =>
      rw [hroom] at h
      have hr : l + k ≤ c := Nat.le_of_ble_eq_true hroom
      obtain ⟨c2, h⟩ := boolRA_ok h
      have c2 : o + (l + k) ≤ n := Nat.le_of_ble_eq_true c2
      cases h
      have hst := storePk_ok (vs := vs) (o := o + l) (z := z) hs eL ek (by omega) (by rw [hvl]; exact hd.2.1) (fun j u hu => by rw [hvl]; exact hd.2.2 j u hu)
      rw [hvl] at hst
      obtain ⟨k1, k2, k3, k4, k5⟩ := hst
      by_cases hc0 : c' = 0
      · have hk0 : k = 0 := by omega
        have hv0 : vs = [] := List.eq_nil_of_length_eq_zero (by omega)
        subst hv0
        refine ⟨_, w, hsrc.nada hk0 _ l c' (by omega), ρ, ⟨L, c', a, eL, by rw [hk0]; rfl, ha, hr, g2, g3, g4, by rw [Nat.mul_one]; exact g5⟩, k4, k5⟩
      · have ha : a = L.s + o := ha.resolve_right hc0
        subst ha
        have e2 : L.s + o + l * i.size = L.s + (o + l) := by rw [h1]; omega
        refine ⟨_, _, hsrc.room L.r (L.s + o) l c' (by omega) (fun j hj => by rw [e2]; exact k1 j (by omega)) (fun j hj => by rw [e2]; exact k2 j (by omega)), ρ, ⟨L, c', L.s + o, eL, rfl, .inl rfl, hr, g2, g3, g4, by rw [Nat.mul_one]; exact g5⟩, ?_, ?_⟩
        · rw [e2]; exact k4
        · rw [e2]; exact k5
    | false =>
      rw [hroom] at h
      have hr : c < l + k := by
        rcases Nat.lt_or_ge c (l + k) with g | g
        · exact g
        · rw [show Nat.ble (Nat.add l k) c = true from Nat.ble_eq_true_of_le g] at hroom; cases hroom
      have hbk' := hbk
      obtain ⟨e0, arr, fr, ew, b1, b2, b3, b4, b5⟩ := hbk'
      cases kn with
      | true =>
        have hcc := g3 rfl
        obtain ⟨d0, h⟩ := boolRA_ok h
        have d0 : o + l ≤ n := Nat.le_of_ble_eq_true d0
        obtain ⟨hlast, rfl, rfl⟩ := alR_ok h
        have hod : Dig κ l (bitsAt (pkw κ) n m o l) ((List.range l).map fun j => pkV κ (bitsAt (pkw κ) l (bitsAt (pkw κ) n m o l) j 1)) := ⟨by simp, bitsAt_lt _ _ _ _ _, fun j u hu => by
          have hj : j < l := by
            rcases Nat.lt_or_ge j l with g | g
            · exact g
            · rw [List.getElem?_eq_none (by simp; omega)] at hu; cases hu
          rw [List.getElem?_map, List.getElem?_range hj] at hu
          cases hu; rfl⟩
        have hold : (Builtin.firstCells i.size l (.slice (some ⟨L.r, a, none⟩) l c')).run P w.drew = .ok ((List.range l).map fun j => pkV κ (bitsAt (pkw κ) l (bitsAt (pkw κ) n m o l) j 1)).toArray w.drew := run_firstCells_some w.drew i.size l ⟨L.r, a, none⟩ l c' _ (by rw [h1]; simp) (fun j u hu => by
          have hj : j < l := by
            rcases Nat.lt_or_ge j l with g | g
            · exact g
            · rw [List.getElem?_eq_none (by simp; omega)] at hu; cases hu
          rw [ha.resolve_right (by omega), add_ad, hod.2.2 j u hu]
          show w.cell? _ = _
          rw [cell_of ew, bits_sub (by omega) (by omega), Nat.add_assoc]
          exact b5 (o + j) (by omega))
        obtain ⟨nc, ex, n1, n2, n3, n4⟩ := hsrc.grow _ _ _ _ hold (show 0 < k by omega) (show c' < l + k by omega) c1 hb
        refine ⟨_, _, n3, ?_⟩
        have hex : ex.length = nc - (l + k) := by rw [n4, hzl]
        obtain ⟨q1, q2, q3⟩ := bits_glue (bitsAt_lt _ _ _ _ _) hod.1 (dig_glue hod) hd
        exact nres_ok hs hlast (NRes.pk (ρ := ρ) (w := w.drew) (fr := (0, 0)) q1 q2 q3 (.inl rfl) (fun ρ' b hb => slW_new (w := w) n1 n2 (by show nc * 1 ≤ l + k + ex.length; omega) ρ' b hb))
      | false =>
        obtain ⟨d0, h⟩ := boolRA_ok h
        obtain ⟨d0, d1⟩ := Bool.and_eq_true_iff.1 d0
        obtain ⟨d1, d2⟩ := Bool.and_eq_true_iff.1 d1
        have d0 : tt = e := Nat.eq_of_beq_eq_true d0
        have d1 : o = 0 := Nat.eq_of_beq_eq_true d1
        have d2 : l = n := Nat.eq_of_beq_eq_true d2
        rw [d0] at ek hbk ew
        obtain ⟨hlast, rfl, rfl⟩ := alR_ok h
        have hlast : notLast σ.nx = true := hlast
        by_cases hin : l + k ≤ c'
        · by_cases hc0 : c' = 0
          · omega
          · have ha : a = L.s := by have := ha.resolve_right hc0; rw [d1] at this; exact this
            subst ha
            have hfit : L.s + (l + k) ≤ arr.size := by omega
            obtain ⟨arr', ew', z', g'⟩ := heap_setCells L.r e fr vs (L.s + n) w arr ew
            obtain ⟨s1, s2, s3, s4, s5⟩ := setCells_rest L.r vs (L.s + n) w
            have hls : l * i.size = n := by rw [h1, d2, Nat.mul_one]
            have hrun := hsrc.room L.r L.s l c' hin (fun j hj => by rw [hls, cell_of ew, Array.getElem?_eq_getElem (by omega)]; rfl) (fun j hj => by rw [hls]; exact frozen_of ew b3 (by omega))
            rw [hls] at hrun
            have hcur : ∀ j, j < n → ((List.range n).map fun j => pkV κ (bitsAt (pkw κ) n m j 1))[j]? = some (pkV κ (bitsAt (pkw κ) n m j 1)) := fun j hj => by rw [List.getElem?_map, List.getElem?_range hj]; rfl
            obtain ⟨q1, q2, q3⟩ := bits_glue (olds := (List.range n).map fun j => pkV κ (bitsAt (pkw κ) n m j 1)) b4 (by simp) hcur hd
            have hkb : RB (pext ρ σ.nx L) (w.setCells L.r (L.s + n) vs) L (.pk κ e (n + k) (Nat.add (Nat.shiftLeft m (Nat.mul (pkw κ) k)) z)) := by
              refine ⟨e0, arr', fr, ew', by omega, by omega, by rw [z']; exact b3, q1, fun j hj => ?_⟩
              rw [g' (L.s + j) (by omega), ← q3 j hj]
              by_cases hjN : j < n
              · rw [if_neg (by omega), List.getElem?_append_left (by simpa using hjN), hcur j hjN]
                exact b5 j hjN
              · rw [if_pos (by omega), show L.s + j - (L.s + n) = j - n by omega, List.getElem?_append_right (by simp; omega)]
                simp
            obtain ⟨m1, m2⟩ := move_ok hs hl hlast hkb e0 s1 s2 s3 s4 (fun r hr => s5 r (not_own e0 hr))
            exact ⟨_, _, hrun, pext ρ σ.nx L, ⟨L, c', L.s, ext_self _ _ _, rfl, .inl rfl, Nat.le_refl _, hin, fun h => (by cases h), g4, by rw [d1] at g5; rw [Nat.mul_one]; exact g5⟩, m1, m2⟩
        · have hcur : ∀ j, j < n → ((List.range n).map fun j => pkV κ (bitsAt (pkw κ) n m j 1))[j]? = some (pkV κ (bitsAt (pkw κ) n m j 1)) := fun j hj => by rw [List.getElem?_map, List.getElem?_range hj]; rfl
          have hold : (Builtin.firstCells i.size l (.slice (some ⟨L.r, a, none⟩) l c')).run P w.drew = .ok ((List.range n).map fun j => pkV κ (bitsAt (pkw κ) n m j 1)).toArray w.drew := run_firstCells_some w.drew i.size l ⟨L.r, a, none⟩ l c' _ (by rw [h1, d2]; simp) (fun j u hu => by
            have hj : j < n := by
              rcases Nat.lt_or_ge j n with g | g
              · exact g
              · rw [List.getElem?_eq_none (by simp; omega)] at hu; cases hu
            rw [hcur j hj] at hu
            cases hu
            rw [ha.resolve_right (by omega), d1, add_ad]
            show w.cell? _ = _
            rw [cell_of ew]
            exact b5 j hj)
          obtain ⟨nc, ex, n1, n2, n3, n4⟩ := hsrc.grow _ _ _ _ hold (show 0 < k by omega) (show c' < l + k by omega) c1 hb
          refine ⟨_, _, n3, ?_⟩
          have hex : ex.length = nc - (l + k) := by rw [n4, hzl]
          obtain ⟨q1, q2, q3⟩ := bits_glue (olds := (List.range n).map fun j => pkV κ (bitsAt (pkw κ) n m j 1)) b4 (by simp) hcur hd
          obtain ⟨t1, t2⟩ := dead_ok hs hl
          obtain ⟨ρ', v1, v2, v3⟩ := nres_ok (σ := σ.put b .dead) t1 hlast (NRes.pk (ρ := ρ) (w := w.drew) (fr := (0, 0)) q1 q2 q3 (.inl rfl) (fun ρ' b hb => slW_new (w := w) (l := l + k) n1 n2 (by show nc * 1 ≤ n + k + ex.length; omega) ρ' b hb))
          exact ⟨ρ', v1, v2, t2.trans v3⟩
  · obtain ⟨u, e1, h⟩ := onLit_some h RA.ne
    obtain ⟨c0, h⟩ := boolRA_ok h
    obtain ⟨c0, c1⟩ := Bool.and_eq_true_iff.1 c0
    have := vSl00_ok c0
    rw [this] at e1
    rw [e1] at hx
    have hx' : S = _ := hx
    rw [hx']
    cases hk0 : Nat.beq k 0 with
    | true =>
      rw [hk0] at h
      have hk0 : k = 0 := Nat.eq_of_beq_eq_true hk0
      cases h
      refine ⟨_, w, hsrc.nada hk0 none 0 0 (Nat.le_refl _), ρ, by rw [e1]; rfl, hs, Step.refl _ _ _⟩
    | false =>
      rw [hk0] at h
      have hk0 : 0 < k := Nat.pos_of_ne_zero fun e => by rw [e] at hk0; cases hk0
      obtain ⟨hlast, rfl, rfl⟩ := alR_ok h
      have hold : (Builtin.firstCells i.size 0 (.slice none 0 0)).run P w.drew = .ok ([] : List Value).toArray w.drew := run_firstCells_none w.drew i.size 0 0 0
      have c1' : apFit (0 + k) i.bytes = true := by rw [Nat.zero_add]; exact c1
      obtain ⟨nc, ex, n1, n2, n3, n4⟩ := hsrc.grow _ _ _ _ hold hk0 (show 0 < 0 + k by omega) c1' hb
      rw [Nat.zero_add] at n1 n3 n4
      refine ⟨_, _, n3, ?_⟩
      have hex : ex.length = nc - k := by rw [n4, hzl]
      exact nres_ok hs hlast (NRes.pk (ρ := ρ) (w := w.drew) (cs := [] ++ vs) (fr := (0, 0)) hd.2.1 (by simpa using hvl) (by simpa using dig_glue hd) (.inl rfl) (fun ρ' b hb => slW_new (w := w) n1 n2 (by show nc * 1 ≤ k + ex.length; omega) ρ' b hb))
end
end Go.Proofs.YtaogloegiffioaaGreatDoor
namespace Go.Proofs.YtaogloegiffioaaGreatDoor
section
variable {P : Program} {ρ : Pl} {x y z : G} {T : Tm} {σ σ' : St} {s v : AV} {X Y S : Value} {t tx ty : TypeId} {w : World}
theorem rowSrc_first {wd : Nat} {a : AV} {f : Row → Nat → Nat → RA} (hs : RS ρ σ w) (hx : Rv ρ a X) (h : rowSrc wd σ a f = .ok v σ') :
    ∃ k q qo, f q qo k = .ok v σ' ∧ (∀ w', (Builtin.lenOf X).run P w' = .ok k w') ∧ ∀ n, n ≤ k → ∃ vs : List Value, (Builtin.firstCells wd n X).run P w = .ok vs.toArray w ∧ vs.length = n * wd ∧ Src' ρ q qo vs := by
  unfold rowSrc at h
  rcases onSl_or h with ⟨b, o, l, c, w', kn, e1, h⟩ | h
  · obtain ⟨tt, N, r, ek, h⟩ := onCells_some h RA.ne
    obtain ⟨c0, h⟩ := boolRA_ok h
    have c0 : o + l * wd ≤ N := Nat.le_of_ble_eq_true c0
    rw [e1] at hx
    obtain ⟨L, c', ad, eL, rfl, ha, g1, g2, g3, g4, g5⟩ := hx
    have hb := hs.blk b L eL
    rw [ek] at hb
    refine ⟨l, r, o, h, fun _ => rfl, fun n hn => ?_⟩
    have hle : n * wd ≤ l * wd := Nat.mul_le_mul_right _ hn
    obtain ⟨p1, p2, p3, cs, o1, o2, o3⟩ := row_ok hb (show o + n * wd ≤ N by omega)
    refine ⟨cs, run_firstCells_some w wd n ⟨L.r, ad, none⟩ l c' cs o1 (fun j u hu => ?_), o1, p1, by omega, o2⟩
    have hj : j < n * wd := by
      rcases Nat.lt_or_ge j (n * wd) with g | g
      · exact g
      · rw [List.getElem?_eq_none (by omega)] at hu; cases hu
    have h0 : c' ≠ 0 := fun h0 => by
      have : n = 0 := by omega
      rw [this, Nat.zero_mul] at hj; omega
    rw [ha.resolve_right h0, add_ad]
    exact o3 j u hu
  · obtain ⟨u, e1, h⟩ := onLit_some h RA.ne
    obtain ⟨hv, h⟩ := boolRA_ok h
    obtain ⟨c, rfl⟩ := vSl0_ok hv
    rw [e1] at hx
    rw [show X = _ from hx]
    refine ⟨0, .e, 0, h, fun _ => rfl, fun n hn => ?_⟩
    have : n = 0 := by omega
    subst this
    exact ⟨[], run_firstCells_none w wd 0 0 c, by simp, ⟨0, trivial⟩, by show 0 + 0 ≤ 0; omega, fun j y h => by simp at h⟩
theorem Dig.first {κ : PK} {k z : Nat} {vs : List Value} (h : Dig κ k z vs) {j : Nat} (hj : j ≤ k) : Dig κ j (Nat.shiftRight z (Nat.mul (pkw κ) (Nat.sub k j))) (vs.take j) := by
  have e : Nat.shiftRight z (Nat.mul (pkw κ) (Nat.sub k j)) = bitsAt (pkw κ) k z 0 j := by
    rw [bitsAt_eq, Nat.zero_add]
    show z >>> (pkw κ * (k - j)) = _
    rw [Nat.shiftRight_eq_div_pow, Nat.mod_eq_of_lt]
    rw [Nat.div_lt_iff_lt_mul (Nat.two_pow_pos _), ← Nat.pow_add, ← Nat.mul_add, show j + (k - j) = k by omega]
    exact h.2.1
  rw [e]
  refine ⟨by simp [h.1]; omega, bitsAt_lt _ _ _ _ _, fun i u hu => ?_⟩
  have hi : i < j := by
    rcases Nat.lt_or_ge i j with g | g
    · exact g
    · rw [List.getElem?_eq_none (by simp; omega)] at hu; cases hu
  rw [List.getElem?_take, if_pos hi] at hu
  rw [h.2.2 i u hu, bits_sub (by omega) (by omega), Nat.zero_add]
theorem pkSrc_first {κ : PK} {a : AV} {f : Nat → Nat → RA} (hs : RS ρ σ w) (hx : Rv ρ a X) (h : pkSrc κ σ a f = .ok v σ') :
    ∃ k vs q, f k q = .ok v σ' ∧ (∀ w', (Builtin.lenOf X).run P w' = .ok k w') ∧ Dig κ k q vs ∧ ∀ n, n ≤ k → (Builtin.firstCells 1 n X).run P w = .ok (vs.take n).toArray w := by
  unfold pkSrc at h
  rcases onSl_or h with ⟨b, o, l, c, w', kn, e1, h⟩ | h
  · obtain ⟨κ', tt, n, m, ek, h⟩ := onPk_some h RA.ne
    obtain ⟨c0, h⟩ := boolRA_ok h
    obtain ⟨c0, c1⟩ := Bool.and_eq_true_iff.1 c0
    rw [← pkEq_ok c0] at ek
    have c1 : o + l ≤ n := Nat.le_of_ble_eq_true c1
    rw [e1] at hx
    obtain ⟨L, c', ad, eL, rfl, ha, g1, g2, g3, g4, g5⟩ := hx
    have hb := hs.blk b L eL
    rw [ek] at hb
    obtain ⟨_, arr, fr, e, k1, k2, k3, k4, k5⟩ := hb
    have hd : Dig κ l (bitsAt (pkw κ) n m o l) ((List.range l).map fun j => pkV κ (bitsAt (pkw κ) l (bitsAt (pkw κ) n m o l) j 1)) := ⟨by simp, bitsAt_lt _ _ _ _ _, fun j u hu => by
      have hj : j < l := by
        rcases Nat.lt_or_ge j l with g | g
        · exact g
        · rw [List.getElem?_eq_none (by simp; omega)] at hu; cases hu
      rw [List.getElem?_map, List.getElem?_range hj] at hu
      cases hu; rfl⟩
    refine ⟨l, _, _, h, fun _ => rfl, hd, fun i hi => run_firstCells_some w 1 i ⟨L.r, ad, none⟩ l c' _ (by simp; omega) (fun j u hu => ?_)⟩
    have hj : j < i := by
      rcases Nat.lt_or_ge j i with g | g
      · exact g
      · rw [List.getElem?_eq_none (by simp; omega)] at hu; cases hu
    rw [List.getElem?_take, if_pos hj] at hu
    rw [ha.resolve_right (by omega), add_ad, hd.2.2 j u hu, cell_of e, bits_sub (by omega) (by omega), Nat.add_assoc]
    exact k5 (o + j) (by omega)
  · obtain ⟨u, e1, h⟩ := onLit_some h RA.ne
    obtain ⟨hv, h⟩ := boolRA_ok h
    obtain ⟨c, rfl⟩ := vSl0_ok hv
    rw [e1] at hx
    rw [show X = _ from hx]
    refine ⟨0, [], 0, h, fun _ => rfl, ⟨rfl, Nat.two_pow_pos _, fun j u h => by simp at h⟩, fun n hn => ?_⟩
    have : n = 0 := by omega
    subst this
    exact run_firstCells_none w 1 0 0 c
theorem copy_run {e n k l cp g : Nat} {ad : Addr} {vs : List Value} (hu : P.underlying t = some (.slice e)) (hn : sizeA P e = some g) (hl : ∀ w', (Builtin.lenOf X).run P w' = .ok k w') (hm : Nat.min k l = n) (hf : (Builtin.firstCells g n X).run P w = .ok vs.toArray w) {w' : World} (hst : (storeCells ad vs).run P w = .ok () w') :
    (Builtin.copy_ #[t, tx] ty #[.slice (some ad) l cp, X]).run P w = .ok (goInt n) w' := by
  simp [Builtin.copy_, run_underlying hu, hl, sizeOf_run hn, hm, hf, hst]
theorem copy_run_nil {e k cp g : Nat} {vs : List Value} (hu : P.underlying t = some (.slice e)) (hn : sizeA P e = some g) (hl : ∀ w', (Builtin.lenOf X).run P w' = .ok k w') (hf : (Builtin.firstCells g 0 X).run P w = .ok vs.toArray w) :
    (Builtin.copy_ #[t, tx] ty #[.slice none 0 cp, X]).run P w = .ok (goInt 0) w := by
  simp [Builtin.copy_, run_underlying hu, hl, sizeOf_run hn, hf]
theorem store_run {r o : Nat} {vs : List Value} (h1 : ∀ j, j < vs.length → (w.cell? ⟨r, o + j, none⟩).isSome = true) (h2 : ∀ j, j < vs.length → w.frozen? ⟨r, o + j, none⟩ = false) (h3 : ∀ v ∈ vs, v.oneCell' = true) :
    (storeCells ⟨r, o, none⟩ vs).run P w = .ok () (w.setCells r o vs) := by
  have hst := run_storeCells_cells (P := P) r o vs 0 w (by simpa using h1) (by simpa using h2) h3
  simpa using hst
theorem store_nil {ad : Addr} : (storeCells ad []).run P w = .ok () w := by simp [storeCells]
theorem cpR_ok {e g : Nat} (hs : RS ρ σ w) (hu : P.underlying t = some (.slice e)) (hn : sizeA P e = some g) (hx : Rv ρ (x T) X) (hy : Rv ρ (y T) Y) (h : cpR g x y T σ = .ok v σ') :
    ∃ u w', (Builtin.copy_ #[t, tx] ty #[X, Y]).run P w = .ok u w' ∧ RRes σ ρ w v σ' u w' := by
  unfold cpR at h
  obtain ⟨k, q, qo, h, hl, hf⟩ := rowSrc_first (P := P) hs hy h
  rcases onSl_or h with ⟨b, o, l, c, w', kn, e1, h⟩ | h
  · rw [e1] at hx
    obtain ⟨L, c', a, eL, rfl, ha, g1, g2, g3, g4, g5⟩ := hx
    obtain ⟨vs, f1, f2, f3⟩ := hf (Nat.min k l) (Nat.min_le_left _ _)
    obtain ⟨k0, k1, k2, k3, k4, k5⟩ := stRow_ok hs eL f3 f2 h
    subst k0
    have hmx : Nat.min k l ≤ 9223372036854775807 := by have := Nat.min_le_right k l; rw [maxLen_eq] at g4; show min k l ≤ _; omega
    by_cases hc0 : c' = 0
    · have hv0 : vs = [] := List.eq_nil_of_length_eq_zero (by rw [f2, show Nat.min k l = 0 by show min k l = 0; omega, Nat.zero_mul])
      subst hv0
      exact ⟨_, w, copy_run hu hn hl rfl f1 store_nil, ρ, ⟨rfl, hmx⟩, k4, k5⟩
    · rw [ha.resolve_right hc0]
      exact ⟨_, _, copy_run hu hn hl rfl f1 (store_run k1 k2 k3), ρ, ⟨rfl, hmx⟩, k4, k5⟩
  · obtain ⟨u, e1, h⟩ := onLit_some h RA.ne
    obtain ⟨hv, h⟩ := boolRA_ok h
    obtain ⟨c, rfl⟩ := vSl0_ok hv
    rw [e1] at hx
    rw [show X = _ from hx]
    cases h
    obtain ⟨vs, f1, _, _⟩ := hf 0 (Nat.zero_le _)
    exact ⟨_, w, copy_run_nil hu hn hl f1, ρ, ⟨rfl, by omega⟩, hs, Step.refl _ _ _⟩
theorem cpK_ok {κ : PK} {e : Nat} (hs : RS ρ σ w) (hu : P.underlying t = some (.slice e)) (hn : sizeA P e = some 1) (hx : Rv ρ (x T) X) (hy : Rv ρ (y T) Y) (h : cpK κ x y T σ = .ok v σ') :
    ∃ u w', (Builtin.copy_ #[t, tx] ty #[X, Y]).run P w = .ok u w' ∧ RRes σ ρ w v σ' u w' := by
  unfold cpK at h
  obtain ⟨k, vs, q, h, hl, hd, hf⟩ := pkSrc_first (P := P) hs hy h
  rcases onSl_or h with ⟨b, o, l, c, w', kn, e1, h⟩ | h
  · rw [e1] at hx
    obtain ⟨L, c', a, eL, rfl, ha, g1, g2, g3, g4, g5⟩ := hx
    obtain ⟨κ', tt, n, m, ek, h⟩ := onPk_some h RA.ne
    obtain ⟨c0, h⟩ := boolRA_ok h
    obtain ⟨c0, c1⟩ := Bool.and_eq_true_iff.1 c0
    rw [← pkEq_ok c0] at ek
    have c1 : o + Nat.min k l ≤ n := Nat.le_of_ble_eq_true c1
    cases h
    have hd1 := hd.first (Nat.min_le_left k l)
    have hst := storePk_ok (vs := vs.take (Nat.min k l)) (o := o) (z := Nat.shiftRight q (Nat.mul (pkw κ) (Nat.sub k (Nat.min k l)))) hs eL ek (by rw [hd1.1]; exact c1) (by rw [hd1.1]; exact hd1.2.1) (fun j u hu => by rw [hd1.1]; exact hd1.2.2 j u hu)
    obtain ⟨k1, k2, k3, k4, k5⟩ := hst
    rw [hd1.1] at k4 k5
    have hmx : Nat.min k l ≤ 9223372036854775807 := by have := Nat.min_le_right k l; rw [maxLen_eq] at g4; show min k l ≤ _; omega
    have f1 := hf (Nat.min k l) (Nat.min_le_left _ _)
    by_cases hc0 : c' = 0
    · have hv0 : vs.take (Nat.min k l) = [] := List.eq_nil_of_length_eq_zero (by rw [hd1.1]; show min k l = 0; omega)
      rw [hv0] at f1 k4 k5
      exact ⟨_, w, copy_run hu hn hl rfl f1 store_nil, ρ, ⟨rfl, hmx⟩, k4, k5⟩
    · rw [ha.resolve_right hc0]
      exact ⟨_, _, copy_run hu hn hl rfl f1 (store_run k1 k2 k3), ρ, ⟨rfl, hmx⟩, k4, k5⟩
  · obtain ⟨u, e1, h⟩ := onLit_some h RA.ne
    obtain ⟨hv, h⟩ := boolRA_ok h
    obtain ⟨c, rfl⟩ := vSl0_ok hv
    rw [e1] at hx
    rw [show X = _ from hx]
    cases h
    exact ⟨_, w, copy_run_nil hu hn hl (hf 0 (Nat.zero_le _)), ρ, ⟨rfl, by omega⟩, hs, Step.refl _ _ _⟩
theorem clrR_ok {e g : Nat} {i : TypeInfo} {zv : Value} {zl : List Value} (hs : RS ρ σ w) (hu : P.underlying t = some (.slice e)) (hi : P.info? e = some i) (hz : i.zero = some zv) (hzl : zrowA P e = some zl) (hsz : zl.length = g) (h1 : 0 < g)
    (hx : Rv ρ (x T) X) (h : clrR g (mkRow (zl.map cA1)) x T σ = .ok v σ') : ∃ u w', (Builtin.clear_ #[t] ty #[X]).run P w = .ok u w' ∧ RRes σ ρ w v σ' u w' := by
  unfold clrR at h
  obtain ⟨z', i', hi', hz', rfl, z1, z2, hzr⟩ := zrow_run hzl
  rw [hi] at hi'; cases hi'
  rw [hz] at hz'; cases hz'
  have hzs : zv.cells.size = g := by simpa using hsz
  rcases onSl_or h with ⟨b, o, l, c, w', kn, e1, h⟩ | h
  · obtain ⟨r, hr, h⟩ := orRA_ok h
    rw [e1] at hx
    obtain ⟨L, c', a, eL, rfl, ha, g1, g2, g3, g4, g5⟩ := hx
    obtain ⟨r1, r2, r3⟩ := rowRep_spec l r hr
    have hlen : (List.replicate l zv.cells.toList).flatten.length = l * g := by rw [rep_len]; simp [hzs]
    have hq : Src' ρ r 0 (List.replicate l zv.cells.toList).flatten := ⟨r1, by omega, fun j u hu' => by
      have hj : j < l * g := by
        rcases Nat.lt_or_ge j (l * g) with g' | g'
        · exact g'
        · rw [List.getElem?_eq_none (by omega)] at hu'; cases hu'
      rw [rep_rows zv.cells.toList g hsz h1 l j hj] at hu'
      have hq : j / g < l := by rw [Nat.div_lt_iff_lt_mul h1]; exact hj
      have hm : j % g < g := Nat.mod_lt _ h1
      obtain ⟨a, a1, a2⟩ := r3 _ hq _ hm
      have hj2 : j / g * g + j % g = j := by rw [Nat.mul_comm]; exact Nat.div_add_mod j g
      rw [hj2] at a2
      rw [Nat.zero_add]
      exact Rw_congr (a1.trans a2.symm) ((mkRow_of (ρ := ρ) z1 z2).2.2 _ _ hu')⟩
    obtain ⟨k0, k1, k2, k3, k4, k5⟩ := stRow_ok hs eL hq hlen h
    subst k0
    by_cases hl0 : l = 0
    · subst hl0
      refine ⟨.tuple #[], w, by simp [Builtin.clear_, run_underlying hu], ρ, rfl, k4, k5⟩
    · have hzc : Builtin.zeroCells zv.cells l = ((List.replicate l zv.cells.toList).flatten).toArray := by
        apply Array.ext'
        have := zero_cells zv.cells g l hzs h1
        unfold Builtin.zeroCells
        rw [hzs]; rw [hzs] at this
        exact this
      rw [ha.resolve_right (by omega)]
      have hst := store_run (P := P) k1 k2 k3
      refine ⟨.tuple #[], _, ?_, ρ, rfl, k4, k5⟩
      cases l with
      | zero => exact absurd rfl hl0
      | succ l => simp [Builtin.clear_, run_underlying hu, hzr, hzc, hst]
  · obtain ⟨u, e1, h⟩ := onLit_some h RA.ne
    obtain ⟨hv, h⟩ := boolRA_ok h
    obtain ⟨c, rfl⟩ := vSl0_ok hv
    rw [e1] at hx
    rw [show X = _ from hx]
    cases h
    exact ⟨.tuple #[], w, by simp [Builtin.clear_, run_underlying hu], ρ, rfl, hs, Step.refl _ _ _⟩
end
end Go.Proofs.YtaogloegiffioaaGreatDoor
namespace Go.Proofs.YtaogloegiffioaaGreatDoor
section
variable {P : Program} {ρ : Pl} {x y z : G} {T : Tm} {σ σ' : St} {v : AV} {X Y Z : Value} {t : TypeId} {w : World}
theorem Ents.upd_cons (ks : Bool) (k' u : AV) (n : Nat) (r : Ents) (k v : AV) : (Ents.cons k' u n r).upd ks k v = match keyE ks k k' with
    | .no => .bad
    | .ok true => .some (.cons k v n r)
    | .ok false => match r.upd ks k v with
      | .bad => .bad
      | .none => .none
      | .some r => .some (.cons k' u n r) := by
  show OB.rec (motive := fun _ => OE) _ _ (keyE ks k k') = _
  cases keyE ks k k' with
  | no => rfl
  | ok b =>
    cases b with
    | true => rfl
    | false =>
      show OE.rec (motive := fun _ => OE) .bad .none (fun r => .some (.cons k' u n r)) (r.upd ks k v) = _
      cases r.upd ks k v <;> rfl
theorem Ents.del_cons (ks : Bool) (k' u : AV) (n : Nat) (r : Ents) (k : AV) : (Ents.cons k' u n r).del ks k = match keyE ks k k' with
    | .no => .bad
    | .ok true => .some r
    | .ok false => match r.del ks k with
      | .bad => .bad
      | .none => .none
      | .some r => .some (.cons k' u n r) := by
  show OB.rec (motive := fun _ => OE) _ _ (keyE ks k k') = _
  cases keyE ks k k' with
  | no => rfl
  | ok b =>
    cases b with
    | true => rfl
    | false =>
      show OE.rec (motive := fun _ => OE) .bad .none (fun r => .some (.cons k' u n r)) (r.del ks k) = _
      cases r.del ks k <;> rfl
theorem upd_ok {ks : Bool} {k a : AV} (hk : Rv ρ k X) (ha : Rv ρ a Y) : ∀ (es : Ents) (l : List MapEntry) (i : Nat), Res ρ es l →
    (es.upd ks k a = .none → Instr.findNow (kdOf ks) X l i = some none) ∧ (∀ es', es.upd ks k a = .some es' → ∃ j m, i ≤ j ∧ l[j - i]? = some m ∧ Instr.findNow (kdOf ks) X l i = some (some (j, m.val)) ∧ Instr.sameNow (kdOf ks) X m.key = some true ∧ Res ρ es' (l.modify (j - i) fun e => { e with key := X, val := Y }))
  | .nil, l, i, h => by
    rw [show l = [] from h]
    exact ⟨fun _ => rfl, fun u h => by cases h⟩
  | .cons k' u n r, l, i, ⟨m, q, e, h1, h2, h3, h4⟩ => by
    subst e
    have ih := upd_ok (ks := ks) hk ha r q (i + 1) h4
    rw [Ents.upd_cons]
    cases hb : keyE ks k k' with
    | no => exact ⟨fun h => (by cases h), fun u h => by cases h⟩
    | ok b =>
      have hs := keyE_ok hk h1 hb
      cases b with
      | true =>
        refine ⟨fun h => (by cases h), fun u' h => ?_⟩
        cases h
        refine ⟨i, m, Nat.le_refl _, by simp, by simp [Instr.findNow, hs], hs, ?_⟩
        rw [Nat.sub_self]
        exact ⟨_, _, rfl, hk, ha, h3, h4⟩
      | false =>
        cases hr : r.upd ks k a with
        | bad => exact ⟨fun h => (by cases h), fun u h => by cases h⟩
        | none => exact ⟨fun _ => by simp [Instr.findNow, hs, ih.1 hr], fun u h => by cases h⟩
        | some r' =>
          refine ⟨fun h => (by cases h), fun u' h => ?_⟩
          cases h
          obtain ⟨j, m', g1, g2, g3, g4, g5⟩ := ih.2 _ hr
          refine ⟨j, m', by omega, ?_, by simp [Instr.findNow, hs, g3], g4, ?_⟩
          · rw [show j - i = (j - (i + 1)) + 1 by omega, List.getElem?_cons_succ]; exact g2
          · rw [show j - i = (j - (i + 1)) + 1 by omega]
            exact ⟨m, _, rfl, h1, h2, h3, g5⟩
theorem del_ok {ks : Bool} {k : AV} (hk : Rv ρ k X) : ∀ (es : Ents) (l : List MapEntry) (i : Nat), Res ρ es l →
    (es.del ks k = .none → Instr.findNow (kdOf ks) X l i = some none) ∧ (∀ es', es.del ks k = .some es' → ∃ j m, i ≤ j ∧ l[j - i]? = some m ∧ Instr.findNow (kdOf ks) X l i = some (some (j, m.val)) ∧ Res ρ es' (l.eraseIdx (j - i)))
  | .nil, l, i, h => by
    rw [show l = [] from h]
    exact ⟨fun _ => rfl, fun u h => by cases h⟩
  | .cons k' u n r, l, i, ⟨m, q, e, h1, h2, h3, h4⟩ => by
    subst e
    have ih := del_ok (ks := ks) hk r q (i + 1) h4
    rw [Ents.del_cons]
    cases hb : keyE ks k k' with
    | no => exact ⟨fun h => (by cases h), fun u h => by cases h⟩
    | ok b =>
      have hs := keyE_ok hk h1 hb
      cases b with
      | true =>
        refine ⟨fun h => (by cases h), fun u' h => ?_⟩
        cases h
        refine ⟨i, m, Nat.le_refl _, by simp, by simp [Instr.findNow, hs], ?_⟩
        rw [Nat.sub_self]
        exact h4
      | false =>
        cases hr : r.del ks k with
        | bad => exact ⟨fun h => (by cases h), fun u h => by cases h⟩
        | none => exact ⟨fun _ => by simp [Instr.findNow, hs, ih.1 hr], fun u h => by cases h⟩
        | some r' =>
          refine ⟨fun h => (by cases h), fun u' h => ?_⟩
          cases h
          obtain ⟨j, m', g1, g2, g3, g5⟩ := ih.2 _ hr
          refine ⟨j, m', by omega, ?_, by simp [Instr.findNow, hs, g3], ?_⟩
          · rw [show j - i = (j - (i + 1)) + 1 by omega, List.getElem?_cons_succ]; exact g2
          · rw [show j - i = (j - (i + 1)) + 1 by omega]
            exact ⟨m, _, rfl, h1, h2, h3, g5⟩
theorem snoc_ok {k a : AV} {c : Nat} (hk : Rv ρ k X) (ha : Rv ρ a Y) : ∀ (es : Ents) (l : List MapEntry), Res ρ es l → Res ρ (es.snoc k a c) (l ++ [{ key := X, val := Y, born := c }])
  | .nil, l, h => by
    rw [show l = [] from h]
    exact ⟨_, [], rfl, hk, ha, rfl, rfl⟩
  | .cons k' u n r, l, ⟨m, q, e, h1, h2, h3, h4⟩ => by
    subst e
    exact ⟨m, _, rfl, h1, h2, h3, snoc_ok hk ha r q h4⟩
theorem same_bits {ks : Bool} {k : AV} (hk : Rv ρ k X) (h : okKey ks k = true) (hs : Instr.sameNow (kdOf ks) X Y = some true) (n : Nat) : Instr.sameBits (n + 1) Y X = true := by
  rcases okKey_ok hk h with ⟨rfl, s, rfl⟩ | ⟨rfl, s, rfl⟩
  · cases Y <;> first | (cases hs; done) | skip
    next b =>
      have : (s == b) = true := Option.some.inj (show some (s == b) = some true from hs)
      rw [beq_toListBytes, beq_iff_eq] at this
      show (b == s) = true
      rw [beq_toListBytes, beq_iff_eq]
      exact this.symm
  · cases Y <;> first | (cases hs; done) | skip
    next j b =>
      have : IntKind.i64 = j ∧ s = b := by
        simp only [Instr.sameNow, kdOf] at hs
        by_cases e : IntKind.i64 = j
        · refine ⟨e, ?_⟩
          simpa [e] using hs
        · simp [e] at hs
      obtain ⟨rfl, rfl⟩ := this
      simp [Instr.sameBits]
theorem keyStays_run {ks : Bool} {k : AV} (hk : Rv ρ k X) (h : okKey ks k = true) (hs : Instr.sameNow (kdOf ks) X Y = some true) : (Instr.keyThatStays Y X).run P w = .ok X w := by
  have := same_bits hk h hs 9999
  unfold Instr.keyThatStays
  rw [if_pos this, Sem.run_pure]
theorem setMap_ok {b : Bid} {L : Loc} {es es' : Ents} {c c' : Nat} {arr : Array MapEntry} (hs : RS ρ σ w) (eL : ρ b = some L) (ek : σ.h.at b = .map es c) (h : Res ρ es' arr.toList) :
    (setObj L.r (.map arr c')).run P w = .ok () { w with heap := w.heap.setIfInBounds L.r (.map arr c') } ∧ RS ρ (σ.put b (.map es' c')) { w with heap := w.heap.setIfInBounds L.r (.map arr c') } ∧ Step σ ρ w (σ.put b (.map es' c')) ρ { w with heap := w.heap.setIfInBounds L.r (.map arr c') } := by
  have hb := hs.blk b L eL
  rw [ek] at hb
  obtain ⟨q1, arr0, q2, q3⟩ := hb
  have hlt := heap_lt q2
  obtain ⟨t1, t2⟩ := put_ok (w' := { w with heap := w.heap.setIfInBounds L.r (.map arr c') }) (k := .map es' c') hs ⟨eL, by rw [ek]; trivial⟩ ⟨q1, arr, by simp [hlt], h⟩ rfl rfl rfl (by simp) (fun r _ hr => by
    have : L.r ≠ r := fun e => hr (.inl e)
    simp [this])
  exact ⟨by simp [setObj, Sem.run, q2], t1, t2⟩
theorem mup_ok {ks : Bool} {kt el : TypeId} (hs : RS ρ σ w) (hu : P.underlying t = some (.map kt el)) (hk : P.underlying kt = some (kdOf ks)) (hx : Rv ρ (x T) X) (hy : Rv ρ (y T) Y) (hz : Rv ρ (z T) Z) (h : mup ks x y z T σ = .ok v σ') :
    v = undefA ∧ ∃ w', (Instr.mapUpdate t X Y Z).run P w = .ok () w' ∧ RS ρ σ' w' ∧ Step σ ρ w σ' ρ w' := by
  unfold mup at h
  obtain ⟨c0, h⟩ := boolRA_ok h
  unfold mapOf at h
  obtain ⟨b, e1, h⟩ := onMp_some h RA.ne
  obtain ⟨es, c, ek, h⟩ := onMap_some h RA.ne
  change OE.rec (motive := fun _ => RA) _ _ _ (es.upd ks (y T) (z T)) = _ at h
  rw [e1] at hx
  obtain ⟨L, eL, rfl⟩ := hx
  have hb := hs.blk b L eL
  rw [ek] at hb
  obtain ⟨_, arr, e2, h2⟩ := hb
  have hck := checkKey_run (P := P) (w := w) hk hy c0 false 9999
  have hl := upd_ok (ks := ks) hy hz es arr.toList 0 h2
  cases hr : es.upd ks (y T) (z T) with
  | bad => rw [hr] at h; cases h
  | none =>
    rw [hr] at h
    cases h
    have hf := findKey_run (P := P) (w := w) hk (hl.1 hr)
    obtain ⟨s1, s2, s3⟩ := setMap_ok (P := P) (c' := c + 1) (arr := arr.push { key := Y, val := Z, born := c }) (es' := es.snoc (y T) (z T) c) hs eL ek (by rw [Array.toList_push]; exact snoc_ok hy hz es _ h2)
    refine ⟨rfl, _, ?_, s2, s3⟩
    simp only [Instr.mapUpdate, Sem.run_bind, run_underlying hu, Result.andThen_ok, getMap_run e2, hck, hf]
    exact s1
  | some es' =>
    rw [hr] at h
    cases h
    obtain ⟨j, m, _, g2, g3, g4, g5⟩ := hl.2 es' hr
    have hf := findKey_run (P := P) (w := w) hk g3
    obtain ⟨s1, s2, s3⟩ := setMap_ok (P := P) (c' := c) (arr := arr.modify j fun e => { e with key := Y, val := Z }) (es' := es') hs eL ek (by rw [Array.toList_modify]; exact g5)
    have g2 : arr[j]? = some m := by simpa using g2
    have hst := keyStays_run (P := P) (w := w) (Y := m.key) hy c0 g4
    refine ⟨rfl, _, ?_, s2, s3⟩
    simp only [Instr.mapUpdate, Sem.run_bind, run_underlying hu, Result.andThen_ok, getMap_run e2, hck, hf, g2, Option.map_some, Option.getD_some, hst]
    exact s1
theorem dlt_ok {ks : Bool} {kt el d : TypeId} {ts : Array TypeId} (hs : RS ρ σ w) (ht : ts[0]? = some t) (hu : P.underlying t = some (.map kt el)) (hk : P.underlying kt = some (kdOf ks)) (hx : Rv ρ (x T) X) (hy : Rv ρ (y T) Y) (h : dlt ks x y T σ = .ok v σ') :
    v = unitA ∧ ∃ w', (Builtin.delete_ ts d #[X, Y]).run P w = .ok (.tuple #[]) w' ∧ RS ρ σ' w' ∧ Step σ ρ w σ' ρ w' := by
  unfold dlt at h
  obtain ⟨c0, h⟩ := boolRA_ok h
  unfold mapOf at h
  obtain ⟨b, e1, h⟩ := onMp_some h RA.ne
  obtain ⟨es, c, ek, h⟩ := onMap_some h RA.ne
  change OE.rec (motive := fun _ => RA) _ _ _ (es.del ks (y T)) = _ at h
  rw [e1] at hx
  obtain ⟨L, eL, rfl⟩ := hx
  have hb := hs.blk b L eL
  rw [ek] at hb
  obtain ⟨_, arr, e2, h2⟩ := hb
  have hck := checkKey_run (P := P) (w := w) hk hy c0 arr.isEmpty 9999
  have hl := del_ok (ks := ks) hy es arr.toList 0 h2
  cases hr : es.del ks (y T) with
  | bad => rw [hr] at h; cases h
  | none =>
    rw [hr] at h
    cases h
    have hf := findKey_run (P := P) (w := w) hk (hl.1 hr)
    have hw : ({ w with heap := w.heap.setIfInBounds L.r (.map arr c) } : World) = w := by
      have : w.heap.setIfInBounds L.r (.map arr c) = w.heap := by
        apply Array.ext
        · simp
        · intro i h1 h2
          rw [Array.getElem_setIfInBounds]
          split
          · next e =>
            subst e
            rw [Array.getElem?_eq_getElem h2] at e2
            exact (Option.some.inj e2).symm
          · rfl
      rw [this]
    refine ⟨rfl, w, ?_, hs, Step.refl _ _ _⟩
    have h0 : (#[Value.map (some L.r), Y])[0]? = some (Value.map (some L.r)) := rfl
    have h1 : (#[Value.map (some L.r), Y])[1]? = some Y := rfl
    simp only [Builtin.delete_, ht, h0, h1, Sem.run_bind, run_underlying hu, Result.andThen_ok, getMap_run e2, hck, hf, Sem.run_pure]
    show Result.andThen ((setObj L.r (.map arr c)).run P w) _ = _
    rw [(by simp [setObj, Sem.run, e2] : (setObj L.r (.map arr c)).run P w = .ok () { w with heap := w.heap.setIfInBounds L.r (.map arr c) }), hw]
    rfl
  | some es' =>
    rw [hr] at h
    cases h
    obtain ⟨j, m, _, g2, g3, g5⟩ := hl.2 es' hr
    have hf := findKey_run (P := P) (w := w) hk g3
    have g2 : arr[j]? = some m := by simpa using g2
    have hj : j < arr.size := by
      rcases Nat.lt_or_ge j arr.size with g | g
      · exact g
      · rw [Array.getElem?_eq_none g] at g2; cases g2
    obtain ⟨s1, s2, s3⟩ := setMap_ok (P := P) (c' := c) (arr := arr.eraseIdxIfInBounds j) (es' := es') hs eL ek (by
      rw [Array.eraseIdxIfInBounds, dif_pos hj, Array.toList_eraseIdx]; exact g5)
    refine ⟨rfl, _, ?_, s2, s3⟩
    have h0 : (#[Value.map (some L.r), Y])[0]? = some (Value.map (some L.r)) := rfl
    have h1 : (#[Value.map (some L.r), Y])[1]? = some Y := rfl
    simp only [Builtin.delete_, ht, h0, h1, Sem.run_bind, run_underlying hu, Result.andThen_ok, getMap_run e2, hck, hf, Sem.run_pure]
    show Result.andThen ((setObj L.r _).run P w) _ = _
    rw [s1]
    rfl
theorem nxt_ok {d : TypeId} (hs : RS ρ σ w) (hx : Rv ρ (x T) X) (h : nxt x T σ = .ok v σ') : ∃ u w', (Instr.next X true d).run P w = .ok u w' ∧ Rv ρ v u ∧ RS ρ σ' w' ∧ Step σ ρ w σ' ρ w' := by
  unfold nxt at h
  obtain ⟨b, o, e1, h⟩ := onP_some h RA.ne
  obtain ⟨l, n, q, ek, h⟩ := onSiter_some h RA.ne
  obtain ⟨o0, h⟩ := boolRA_ok h
  have o0 : o = 0 := Nat.eq_of_beq_eq_true o0
  subst o0
  rw [e1] at hx
  obtain ⟨L, eL, rfl⟩ := hx
  have hb := hs.blk b L eL
  rw [ek] at hb
  obtain ⟨g1, g2, g3, g4, g5⟩ := hb
  rw [g2]
  have hg : (getObj L.r).run P w = .ok (.stringIter (strOf l n) q) w := by simp [getObj, Sem.run, g3]
  cases hq : Nat.ble (Nat.succ q) l with
  | false =>
    rw [hq] at h
    cases h
    have hq : ¬ q < l := fun h' => by rw [Nat.ble_eq_true_of_le h'] at hq; cases hq
    refine ⟨.tuple #[.bool false], w, ?_, ⟨[.bool false], ⟨.bool false, [], rfl, rfl, rfl⟩, rfl⟩, hs, Step.refl _ _ _⟩
    simp only [Instr.next, Nat.add_zero, Sem.run_bind, hg, Result.andThen_ok, strOf_size, hq, if_false, Sem.run_pure]
  | true =>
    rw [hq] at h
    obtain ⟨c0, h⟩ := boolRA_ok h
    cases h
    have hq : q < l := Nat.le_of_ble_eq_true hq
    have c0 : bitsAt 8 l n q 1 ≤ 127 := Nat.le_of_ble_eq_true c0
    have hsz : q < (strOf l n).size := by rw [strOf_size]; exact hq
    have hget : (strOf l n)[q]'hsz = UInt8.ofNat (bitsAt 8 l n q 1) := by
      have := strOf_get (n := n) hq
      rw [getElem?_pos (strOf l n) q hsz] at this
      exact Option.some.inj this
    have hnat : ((strOf l n)[q]'hsz).toNat = bitsAt 8 l n q 1 := by
      rw [hget]
      simp
      omega
    have hdec := decode_ascii (strOf l n) q hsz (by rw [hnat]; omega)
    rw [hnat] at hdec
    have hso : (setObj L.r (.stringIter (strOf l n) (q + 1))).run P w = .ok () { w with heap := w.heap.setIfInBounds L.r (.stringIter (strOf l n) (q + 1)) } := by simp [setObj, Sem.run, g3]
    have hlt := heap_lt g3
    obtain ⟨t1, t2⟩ := put_ok (w' := { w with heap := w.heap.setIfInBounds L.r (.stringIter (strOf l n) (q + 1)) }) (k := .siter l n (q + 1)) hs ⟨eL, by rw [ek]; trivial⟩ ⟨g1, g2, by simp [hlt], g4, g5⟩ rfl rfl rfl (by simp) (fun r _ hr => by
      have : L.r ≠ r := fun e => hr (.inl e)
      simp [this])
    refine ⟨.tuple #[.bool true, .int .i64 q, .int .i32 (bitsAt 8 l n q 1)], _, ?_, ⟨[_, _, _], ⟨_, _, rfl, rfl, _, _, rfl, ⟨rfl, by omega⟩, _, _, rfl, ⟨rfl, by omega⟩, rfl⟩, rfl⟩, t1, t2⟩
    simp only [Instr.next, Nat.add_zero, Sem.run_bind, hg, Result.andThen_ok, hsz, if_true, hdec, hso, Sem.run_pure, goInt]
end
end Go.Proofs.YtaogloegiffioaaGreatDoor
namespace Go.Proofs.YtaogloegiffioaaGreatDoor
section
variable {P : Program} {ρ : Pl} {x y z : G} {T : Tm} {σ σ' : St} {v : AV} {X Y Z : Value} {t : TypeId} {w : World}
theorem com_i64_ok (hx : Rv ρ (x T) X) (h : com_i64 x T σ = .ok v) (w : World) : ∃ z, (Op.unary .xor X).run P w = .ok z w ∧ Rv ρ v z := by
  unfold com_i64 at h
  cases hv : (x T).val with
  | none => rw [hv] at h; cases h
  | some V =>
    rw [hv] at h
    have := val_ok hx hv
    subst this
    unfold comV at h
    split at h
    · next k n e =>
      injection e with e
      subst e
      cases h
      refine ⟨.int .i64 (IntKind.wrap .i64 (-n - 1)), ?_, normV_ok _⟩
      have e1 : (BitVec.ofInt 64 (-1 : Int)) ^^^ (BitVec.ofInt 64 n) = ~~~ (BitVec.ofInt 64 n) := by
        rw [show (BitVec.ofInt 64 (-1 : Int)) = BitVec.allOnes 64 from by decide, BitVec.allOnes_xor]
      have e2 : ((BitVec.ofInt 64 n).toNat : Int) = n % 2 ^ 64 := by simp [BitVec.toNat_ofInt]; omega
      have e3 : ((~~~ (BitVec.ofInt 64 n)).toNat : Int) = 2 ^ 64 - 1 - n % 2 ^ 64 := by rw [BitVec.toNat_not]; omega
      show (Op.intBits .xor .i64 (-1) n).run P w = _
      unfold Op.intBits
      show (Sem.pure (Value.int .i64 (IntKind.wrap .i64 (((BitVec.ofInt 64 (-1 : Int)) ^^^ (BitVec.ofInt 64 n)).toNat)))).run P w = _
      rw [e1, e3]
      show Result.ok _ _ = _
      have e4 : (2 ^ 64 - 1 - n % 2 ^ 64) % (2 ^ 64 : Int) = (-n - 1) % (2 ^ 64 : Int) := by omega
      have e5 : IntKind.wrap .i64 (2 ^ 64 - 1 - n % 2 ^ 64) = IntKind.wrap .i64 (-n - 1) := congrArg (fun m : Int => if IntKind.i64.signed && m ≥ (2 ^ (IntKind.i64.bits - 1) : Int) then m - (2 ^ IntKind.i64.bits : Int) else m) e4
      rw [e5]
    · cases h
end
end Go.Proofs.YtaogloegiffioaaGreatDoor
namespace Go.Proofs.YtaogloegiffioaaGreatDoor
section
variable {P : Program} {ρ : Pl} {x y : G} {T : Tm} {σ σ' : St} {v : AV} {X Y : Value} {t : TypeId}
def ekA (P : Program) (t : TypeId) : Option EK := match P.underlying t with
  | some (.int .i64) => some .i64
  | some (.int .u64) => some .u64
  | some (.int .u8) => some .u8
  | some .bool => some .b
  | some .string => some .s
  | _ => none
def elsA (P : Program) : Nat → Nat → Nat → List Field → EL → Option EL
  | 0, _, _, _, _ => none
  | n + 1, base, m, fs, tail => fs.foldr (fun f a => match a with
    | none => none
    | some l => match f.name == "_" with
      | true => some l
      | false => match ekA P f.type with
        | some k => match Nat.blt f.offset m with
          | true => some (.cons (base + f.offset) k l)
          | false => none
        | none => match P.underlying f.type, sizeA P f.type with
          | some (.struct gs), some g => match Nat.ble (f.offset + g) m && !P.stoodInHeld f.type with
            | true => elsA P n (base + f.offset) g gs.toList l
            | false => none
          | _, _ => none) (some tail)
theorem elsA_cons {P : Program} {n base m : Nat} {f : Field} {fs : List Field} {tail : EL} : elsA P (n + 1) base m (f :: fs) tail = (match elsA P (n + 1) base m fs tail with
    | none => none
    | some l => match f.name == "_" with
      | true => some l
      | false => match ekA P f.type with
        | some k => match Nat.blt f.offset m with
          | true => some (.cons (base + f.offset) k l)
          | false => none
        | none => match P.underlying f.type, sizeA P f.type with
          | some (.struct gs), some g => match Nat.ble (f.offset + g) m && !P.stoodInHeld f.type with
            | true => elsA P n (base + f.offset) g gs.toList l
            | false => none
          | _, _ => none) := rfl
def kdK : EK → TypeDesc
  | .i64 => .int .i64
  | .u64 => .int .u64
  | .u8 => .int .u8
  | .b => .bool
  | .s => .string
theorem ekA_ok {k : EK} (h : ekA P t = some k) : P.underlying t = some (kdK k) := by
  unfold ekA at h
  split at h <;> first | (injection h with h; subst h; assumption) | cases h
theorem kdK_agg {k : EK} (h : P.underlying t = some (kdK k)) : isAggA P t = some false := by
  cases k <;> simp [isAggA, h, kdK]
theorem eqC_ok {k : EK} {a c : AV} {b : Bool} (ht : P.underlying t = some (kdK k)) (hx : Rv ρ a X) (hy : Rv ρ c Y) (h : eqC k a c = .ok b) (d : Nat) (w : World) : (Op.equalIn (d + 1) t X Y).run P w = .ok b w := by
  have hno : ∀ b : Bool, (OB.no : OB) ≠ .ok b := fun b h => by cases h
  cases k with
  | i64 =>
    obtain ⟨n, e1, h⟩ := onI64_some (show onI64 a _ _ = _ from h) (hno b)
    obtain ⟨m, e2, h⟩ := onI64_some h (hno b)
    rw [e1] at hx; rw [e2] at hy
    injection h with h; subst h
    rw [show X = _ from hx.1, show Y = _ from hy.1, run_equalIn_int w d t .i64 .i64 _ _ ht, beq_dec]
    congr 1
    show ((n : Int) == (m : Int)) = _
    rw [Bool.eq_iff_iff]
    simp only [beq_iff_eq, decide_eq_true_eq]
    omega
  | u64 =>
    obtain ⟨n, e1, h⟩ := onU64_some (show onU64 a _ _ = _ from h) (hno b)
    obtain ⟨m, e2, h⟩ := onU64_some h (hno b)
    rw [e1] at hx; rw [e2] at hy
    injection h with h; subst h
    rw [show X = _ from hx.1, show Y = _ from hy.1, run_equalIn_int w d t .u64 .u64 _ _ ht, beq_dec]
    congr 1
    show ((n : Int) == (m : Int)) = _
    rw [Bool.eq_iff_iff]
    simp only [beq_iff_eq, decide_eq_true_eq]
    omega
  | u8 =>
    obtain ⟨n, e1, h⟩ := onU8_some (show onU8 a _ _ = _ from h) (hno b)
    obtain ⟨m, e2, h⟩ := onU8_some h (hno b)
    rw [e1] at hx; rw [e2] at hy
    injection h with h; subst h
    rw [show X = _ from hx.1, show Y = _ from hy.1, run_equalIn_int w d t .u8 .u8 _ _ ht, beq_dec]
    congr 1
    show ((n : Int) == (m : Int)) = _
    rw [Bool.eq_iff_iff]
    simp only [beq_iff_eq, decide_eq_true_eq]
    omega
  | b =>
    obtain ⟨n, e1, h⟩ := onB_some (show onB a _ _ = _ from h) (hno b)
    obtain ⟨m, e2, h⟩ := onB_some h (hno b)
    rw [e1] at hx; rw [e2] at hy
    injection h with h; subst h
    rw [show X = _ from hx, show Y = _ from hy, run_equalIn_bool' w d t _ _ ht, eqBB_eq]
  | s =>
    obtain ⟨l, n, e1, h⟩ := onS_some (show onS a _ _ = _ from h) (hno b)
    obtain ⟨l', m, e2, h⟩ := onS_some h (hno b)
    rw [e1] at hx; rw [e2] at hy
    injection h with h; subst h
    rw [show X = _ from hx.1, show Y = _ from hy.1, run_equalIn_string w d t _ _ ht, eq_toList hx.2.1 hy.2.1]
theorem eqR_cons {o : Nat} {k : EK} {l : EL} {n m : Nat} {r q : Row} {b : Bool} (h : eqR (.cons o k l) n m r q = .ok b) :
    o < n ∧ o < m ∧ ∃ x y c, r.get o = .ok x ∧ q.get o = .ok y ∧ eqC k x y = .ok c ∧ (if c then eqR l n m r q = .ok b else b = false) := by
  have h : Bool.rec (motive := fun _ => OB) .no (OA.rec (motive := fun _ => OB) .no (fun x => OA.rec (motive := fun _ => OB) .no (fun y => OB.rec (motive := fun _ => OB) .no (fun b => Bool.rec (.ok false) (eqR l n m r q) b) (eqC k x y)) (q.get o)) (r.get o)) (Nat.ble (Nat.succ o) n && Nat.ble (Nat.succ o) m) = .ok b := h
  cases hc : (Nat.ble (Nat.succ o) n && Nat.ble (Nat.succ o) m) with
  | false => rw [hc] at h; cases h
  | true =>
    rw [hc] at h
    obtain ⟨c1, c2⟩ := Bool.and_eq_true_iff.1 hc
    refine ⟨Nat.le_of_ble_eq_true c1, Nat.le_of_ble_eq_true c2, ?_⟩
    cases h1 : r.get o with
    | no => rw [h1] at h; cases h
    | ok x =>
      cases h2 : q.get o with
      | no => rw [h1, h2] at h; cases h
      | ok y =>
        cases h3 : eqC k x y with
        | no => rw [h1, h2] at h; simp only [h3] at h; cases h
        | ok c =>
          rw [h1, h2] at h; simp only [h3] at h
          refine ⟨x, y, c, rfl, rfl, h3, ?_⟩
          cases c with
          | false => injection h with h; rw [← h]; simp
          | true => exact (if_pos rfl).mpr h
theorem extract_get (xs : Array Value) (o g i : Nat) (hi : i < g) : (xs.extract o (o + g))[i]? = xs[o + i]? := by
  rw [Array.getElem?_extract]
  split
  · rfl
  · next h => rw [Array.getElem?_eq_none (by omega)]
theorem part_agg {g : Nat} (w : World) (xs : Array Value) (o : Nat) (ha : isAggA P t = some true) (hg : sizeA P t = some g) : (part t xs o).run P w = .ok (.agg (xs.extract o (o + g))) w := by simp [part, isAgg_run ha, sizeOf_run hg]
theorem eqFields_ok {n m : Nat} {r q : Row} {cs ds : List Value} (hn : cs.length = n) (hm : ds.length = m) (h5 : ∀ i y, cs[i]? = some y → Rw ρ r i y) (g5 : ∀ i y, ds[i]? = some y → Rw ρ q i y) (w : World) :
    ∀ (k : Nat) (fs : List Field) (base g d : Nat) (xs ys : Array Value) (tail l : EL), elsA P k base g fs tail = some l → (∀ i, i < g → xs[i]? = cs[base + i]?) → (∀ i, i < g → ys[i]? = ds[base + i]?) → ∀ b, eqR l n m r q = .ok b →
      ∃ b1, (Op.eqFields (d + k) xs ys fs).run P w = .ok b1 w ∧ (b1 = true → eqR tail n m r q = .ok b) ∧ (b1 = false → b = false)
  | 0, fs, base, g, d, xs, ys, tail, l, hl, _, _, b, h => by cases hl
  | k + 1, [], base, g, d, xs, ys, tail, l, hl, _, _, b, h => by
    injection hl with hl; subst hl
    exact ⟨true, rfl, fun _ => h, fun h => by cases h⟩
  | k + 1, f :: fs, base, g, d, xs, ys, tail, l, hl, hxs, hys, b, h => by
    rw [elsA_cons] at hl
    cases h1 : elsA P (k + 1) base g fs tail with
    | none => rw [h1] at hl; cases hl
    | some l' =>
      rw [h1] at hl
      have ih := eqFields_ok hn hm h5 g5 w (k + 1) fs base g d xs ys tail l' h1 hxs hys
      unfold Op.eqFields
      cases h2 : f.name == "_" with
      | true =>
        rw [h2] at hl; injection hl with hl; subst hl
        rw [if_neg (by simpa using h2)]
        exact ih b h
      | false =>
        rw [h2] at hl
        rw [if_pos (by simpa using h2)]
        cases h3 : ekA P f.type with
        | some ek =>
          simp only [h3] at hl
          cases h4 : Nat.blt f.offset g with
          | false => rw [h4] at hl; cases hl
          | true =>
            rw [h4] at hl; injection hl with hl; subst hl
            have h4 : f.offset < g := by simpa using h4
            obtain ⟨o1, o2, x, y, c, e1, e2, e3, e4⟩ := eqR_cons h
            have hk := ekA_ok h3
            obtain ⟨X, p1, p2⟩ := part1_ok (P := P) (w := w) (kdK_agg hk) hn h5 o1 e1
            obtain ⟨Y, p3, p4⟩ := part1_ok (P := P) (w := w) (kdK_agg hk) hm g5 o2 e2
            have q1 : (part f.type xs f.offset).run P w = .ok X w := by
              rw [← p1]; simp [part, isAgg_run (kdK_agg hk), hxs f.offset h4]
            have q3 : (part f.type ys f.offset).run P w = .ok Y w := by
              rw [← p3]; simp [part, isAgg_run (kdK_agg hk), hys f.offset h4]
            simp only [Sem.run_bind, q1, q3, Result.andThen_ok, show d + (k + 1) = (d + k) + 1 by omega, eqC_ok hk p2 p4 e3 (d + k) w]
            cases c with
            | false => rw [if_neg (by simp)] at e4; subst e4; exact ⟨false, rfl, fun h => (by cases h), fun _ => rfl⟩
            | true =>
              rw [if_pos rfl] at e4
              obtain ⟨b1, k1, k2⟩ := ih b e4
              exact ⟨b1, by simpa [Nat.add_assoc] using k1, k2⟩
        | none =>
          simp only [h3] at hl
          split at hl
          · next gs gg hu hg =>
            cases h4 : Nat.ble (f.offset + gg) g && !P.stoodInHeld f.type with
            | false => rw [h4] at hl; cases hl
            | true =>
              rw [h4] at hl
              obtain ⟨h4, h6⟩ := Bool.and_eq_true_iff.1 h4
              have h4 : f.offset + gg ≤ g := Nat.le_of_ble_eq_true h4
              have ha : isAggA P f.type = some true := by simp [isAggA, hu]
              have hf : P.fieldsOf f.type = gs := by simp [Program.fieldsOf, hu]
              cases k with
              | zero => cases hl
              | succ k =>
                obtain ⟨b1, k1, k2, k3⟩ := eqFields_ok hn hm h5 g5 w (k + 1) gs.toList (base + f.offset) gg d (xs.extract f.offset (f.offset + gg)) (ys.extract f.offset (f.offset + gg)) l' l hl
                  (fun i hi => by rw [extract_get xs _ _ i hi, hxs _ (by omega), Nat.add_assoc]) (fun i hi => by rw [extract_get ys _ _ i hi, hys _ (by omega), Nat.add_assoc]) b h
                have heq : (Op.equalIn (d + (k + 1 + 1)) f.type (.agg (xs.extract f.offset (f.offset + gg))) (.agg (ys.extract f.offset (f.offset + gg)))).run P w = .ok b1 w := by
                  rw [show d + (k + 1 + 1) = (d + (k + 1)) + 1 by omega, run_equalIn_agg w _ f.type _ _ (by rw [hf]; exact hu) (by simpa using h6), hf]
                  exact k1
                simp only [Sem.run_bind, part_agg w xs f.offset ha hg, part_agg w ys f.offset ha hg, Result.andThen_ok, heq]
                cases b1 with
                | false => exact ⟨false, rfl, fun h => (by cases h), fun _ => k3 rfl⟩
                | true =>
                  obtain ⟨b2, j1, j2⟩ := ih b (k2 rfl)
                  exact ⟨b2, by simpa using j1, j2⟩
          · cases hl
theorem eqA_ok {fs : Array Field} {l : EL} {a c : AV} {g : Nat} (ht : P.underlying t = some (.struct fs)) (hl : elsA P 3 0 g fs.toList .nil = some l) (h1 : P.stoodInHeld t = false) (h2 : P.eqGuardType P.depth t = false) (neg : Bool)
    (hx : Rv ρ a X) (hy : Rv ρ c Y) (h : eqA neg l a c = .ok v) : BinT P ρ (if neg then .neq else .eql) t X Y v := by
  obtain ⟨n, r, e1, h⟩ := onAgg_some (show onAgg a _ _ = _ from h) OA.ne
  obtain ⟨m, q, e2, h⟩ := onAgg_some h OA.ne
  rw [e1] at hx; rw [e2] at hy
  obtain ⟨cs, rfl, a1, a2, a3, a4⟩ := hx
  obtain ⟨ds, rfl, b1, b2, b3, b4⟩ := hy
  cases hb : eqR l n m r q with
  | no => rw [hb] at h; cases h
  | ok b =>
    rw [hb] at h
    injection h with h
    have hf : P.fieldsOf t = fs := by simp [Program.fieldsOf, ht]
    have key : ∀ w, (Op.equalIn 10000 t (.agg cs.toArray) (.agg ds.toArray)).run P w = .ok b w := fun w => by
      rw [run_equalIn_agg w 9999 t _ _ (by rw [hf]; exact ht) h1, hf]
      obtain ⟨b1, k1, k2, k3⟩ := eqFields_ok a1 b1 a4 b4 w 3 fs.toList 0 g 9996 cs.toArray ds.toArray .nil l hl (fun i _ => by simp) (fun i _ => by simp) b hb
      cases b1 with
      | true => have := k2 rfl; injection this with this; rw [← this]; exact k1
      | false => rw [k3 rfl]; exact k1
    cases neg with
    | false =>
      subst h
      exact fun ox oy w => ⟨.bool b, by simp [run_eqGuard_agg w .eql t ox oy _ _ h2, run_eql_struct, key w], rfl⟩
    | true =>
      subst h
      exact fun ox oy w => ⟨.bool (!b), by simp [run_eqGuard_agg w .neq t ox oy _ _ h2, run_neq_struct, key w], rfl⟩
theorem H1.set_self (t : H1) (d : D16) : t.set d (t.get d) = t := by cases t; cases d <;> rfl
theorem H2.set_self (t : H2) (d : D16) : t.set d (t.get d) = t := by cases t; cases d <;> rfl
theorem H3.set_self (t : H3) (d : D16) : t.set d (t.get d) = t := by cases t; cases d <;> rfl
theorem H4.set_self (t : H4) (d : D16) : t.set d (t.get d) = t := by cases t; cases d <;> rfl
theorem H5.set_self (t : H5) (d : D16) : t.set d (t.get d) = t := by cases t; cases d <;> rfl
theorem H4.putD_self (t : H4) (a b c d : D16) : t.putD a b c d ((((t.get a).get b).get c).get d) = t := by
  unfold H4.putD
  rw [H1.set_self, H2.set_self, H3.set_self, H4.set_self]
theorem St.put_self (σ : St) (b : Bid) : σ.put b (σ.h.at b) = σ := by
  obtain ⟨h, nx⟩ := σ
  obtain ⟨z, a, b, c, d⟩ := b
  show St.mk (h.set z ((h.get z).putD a b c d (((((h.get z).get a).get b).get c).get d))) nx = _
  rw [H4.putD_self, H5.set_self]
theorem touch_ok {w w' : World} (h : RS ρ σ w) {b : Bid} {L : Loc} (hl : Live σ ρ b L) (hk : RB ρ w' L (σ.h.at b))
    (hos : w'.os = w.os) (ht : w'.tape = w.tape) (ho : w'.output = w.output) (hz : w.heap.size ≤ w'.heap.size) (hf : ∀ r, r < w.heap.size → ¬ Own L r → w'.heap[r]? = w.heap[r]?) :
    RS ρ σ w' ∧ Step σ ρ w σ ρ w' := by
  have := put_ok h hl hk hos ht ho hz hf
  rwa [St.put_self] at this
theorem cv_ss_ok {w : World} {src dst e e' : TypeId} (hs : RS ρ σ w) (h1 : P.underlying src = some (.slice e')) (h2 : P.underlying dst = some (.slice e)) (h3 : P.underlying e = some (.int .u8)) (h4 : src = dst) (hx : Rv ρ (x T) X) (h : cv_ss x T σ = .ok v σ') :
    v = x T ∧ σ' = σ ∧ ∃ w', (convert src dst X).run P w = .ok X w' ∧ RS ρ σ w' ∧ Step σ ρ w σ ρ w' := by
  unfold cv_ss at h
  obtain ⟨b, o, l, c, wd, kn, e1, h⟩ := onSl_some h RA.ne
  obtain ⟨κ, tt, n, m, ek, h⟩ := onPk_some h RA.ne
  injection h with hv hσ
  refine ⟨hv.symm, hσ.symm, ?_⟩
  rw [e1] at hx
  obtain ⟨L, c', a, eL, rfl, ha, g1, g2, g3, g4, g5⟩ := hx
  have hb := hs.blk b L eL
  have hb0 := hb
  rw [ek] at hb
  obtain ⟨e0, arr, fr, he, k1, k2, k3, k4, k5⟩ := hb
  obtain ⟨lo, hi⟩ := fr
  have hlt := heap_lt he
  have hsh : w.shape? L.r = some (tt, arr.size) := by simp [World.shape?, he]
  obtain ⟨fr', hfr, k3'⟩ : ∃ fr' : Nat × Nat, (w.freeze ⟨L.r, arr.size, none⟩ 1).heap[L.r]? = some (.cells arr tt fr') ∧ (fr' = (0, 0) ∨ arr.size ≤ fr'.1) := by
    refine ⟨if lo == hi then (arr.size, arr.size + 1) else (min lo arr.size, max hi (arr.size + 1)), ?_, ?_⟩
    · simp only [World.freeze, if_neg (show ¬ (1 = 0) by decide), Array.getElem?_modify, if_pos, he, Option.map_some]
    · split
      · right; simp
      · next hne =>
        right
        show arr.size ≤ min lo arr.size
        have k3 : (lo = 0 ∧ hi = 0) ∨ arr.size ≤ lo := by simpa using k3
        rcases k3 with k3 | k3
        · rw [k3.1, k3.2] at hne; exact absurd rfl hne
        · omega
  refine ⟨w.freeze ⟨L.r, arr.size, none⟩ 1, ?_, touch_ok hs ⟨eL, by rw [ek]; trivial⟩ ?_ ?_ ?_ ?_ ?_ ?_⟩
  · subst h4
    have he : e' = e := by rw [h1] at h2; cases h2; rfl
    subst he
    simp [convert, run_underlying h1, run_underlying h2, run_underlying h3, markStringish, hsh]
  · rw [ek]
    exact ⟨e0, arr, fr', hfr, k1, k2, k3', k4, k5⟩
  · simp [World.freeze]
  · simp [World.freeze]
  · simp [World.freeze]
  · simp [World.freeze]
  · intro r _ hr
    have hne : r ≠ L.r := fun h => hr (.inl h.symm)
    simp [World.freeze, Array.getElem?_modify, hne.symm]
end
end Go.Proofs.YtaogloegiffioaaGreatDoor
namespace Go.Proofs.YtaogloegiffioaaGreatDoor
section
variable {P : Program} {ρ : Pl} {x y s : G} {T : Tm} {σ σ' : St} {v : AV} {X Y S : Value} {t tx ty : TypeId} {w : World}
theorem apR_ok {e e' : Nat} {i : TypeInfo} {z : Value} (hs : RS ρ σ w) (hu : P.underlying t = some (.slice e)) (hi : P.info? e = some i) (hz : i.zero = some z) (hzs : z.cells.size = i.size) (hb : 0 < i.bytes) (hk : P.underlying tx = some (.slice e'))
    (hx : Rv ρ (s T) S) (hy : Rv ρ (x T) X) (h : apR e i.size i.bytes s x T σ = .ok v σ') : ∃ u w', (Builtin.append_ #[t, tx] ty #[S, X]).run P w = .ok u w' ∧ RRes σ ρ w v σ' u w' := by
  obtain ⟨k, vs, q, qo, h1, h2, h3⟩ := rowSrc_ok hs hk hy h
  exact apRow_ok hs hu hi hz hzs hb hx (AS.of_src hu hi hz h2) h3 h1
theorem apK_ok {κ : PK} {e e' : Nat} {i : TypeInfo} {z : Value} (hs : RS ρ σ w) (hu : P.underlying t = some (.slice e)) (hi : P.info? e = some i) (hz : i.zero = some z) (hzs : z.cells.size = i.size) (h1 : i.size = 1) (hb : 0 < i.bytes) (hk : P.underlying tx = some (.slice e'))
    (hx : Rv ρ (s T) S) (hy : Rv ρ (x T) X) (h : apK κ e i.bytes s x T σ = .ok v σ') : ∃ u w', (Builtin.append_ #[t, tx] ty #[S, X]).run P w = .ok u w' ∧ RRes σ ρ w v σ' u w' := by
  obtain ⟨k, vs, q, g1, g2, g3⟩ := pkSrc_ok hs hk hy h
  rw [← h1] at g2
  exact apNum_ok hs hi hz hzs h1 hb hx (AS.of_src hu hi hz g2) g3 g1
theorem apS_ok {e : Nat} {i : TypeInfo} {z : Value} (hs : RS ρ σ w) (hu : P.underlying t = some (.slice e)) (hi : P.info? e = some i) (hz : i.zero = some z) (hzs : z.cells.size = i.size) (h1 : i.size = 1) (hb : 0 < i.bytes) (hk : P.underlying tx = some .string)
    (hx : Rv ρ (s T) S) (hy : Rv ρ (x T) X) (h : apS e i.bytes s x T σ = .ok v σ') : ∃ u w', (Builtin.append_ #[t, tx] ty #[S, X]).run P w = .ok u w' ∧ RRes σ ρ w v σ' u w' := by
  obtain ⟨k, vs, q, g1, g2, g3⟩ := txtSrc_ok (P := P) (w := w) hk hy h
  rw [← h1] at g2
  exact apNum_ok hs hi hz hzs h1 hb hx (AS.of_src hu hi hz g2) g3 g1
theorem fit_le {l k by_ : Nat} (h : apFit (Nat.add l k) by_ = true) : k * by_ ≤ 140737488355328 := by
  have h1 := fit_ok h
  have : k * by_ ≤ (Nat.add l k) * by_ := Nat.mul_le_mul_right _ (show k ≤ l + k by omega)
  omega
theorem apRow_fit {e wd by_ k qo : Nat} {a : AV} {q : Row} (h : apRow e wd by_ σ a q qo k = .ok v σ') : k * by_ ≤ 140737488355328 := by
  rcases onSl_or h with ⟨b, o, l, c, w', kn, e1, h⟩ | h
  · obtain ⟨c1, _⟩ := boolRA_ok h
    exact fit_le (Bool.and_eq_true_iff.1 c1).2
  · obtain ⟨u, e1, h⟩ := onLit_some h RA.ne
    obtain ⟨c1, _⟩ := boolRA_ok h
    exact fit_ok (Bool.and_eq_true_iff.1 c1).2
theorem apNum_fit {κ : PK} {e by_ k z : Nat} {a : AV} (h : apNum κ e by_ σ a k z = .ok v σ') : k * by_ ≤ 140737488355328 := by
  rcases onSl_or h with ⟨b, o, l, c, w', kn, e1, h⟩ | h
  · obtain ⟨c1, _⟩ := boolRA_ok h
    exact fit_le (Bool.and_eq_true_iff.1 c1).2
  · obtain ⟨u, e1, h⟩ := onLit_some h RA.ne
    obtain ⟨c1, _⟩ := boolRA_ok h
    exact fit_ok (Bool.and_eq_true_iff.1 c1).2
theorem cells_one {zv : Value} (h : zv.cells.toList.all oneV = true) : ∀ u ∈ zv.cells.toList, u.oneCell' = true := fun u hu => oneV_ok (List.all_eq_true.1 h u hu)
theorem rep_src {zv : Value} {g l : Nat} {r : Row} (hzs : zv.cells.size = g) (h1 : 0 < g) (z1 : zv.cells.toList.length ≤ 4096) (z2 : zv.cells.toList.all oneV = true) (hr : rowRep l g (mkRow (zv.cells.toList.map cA1)) = .ok r) :
    Src' ρ r 0 (List.replicate l zv.cells.toList).flatten := by
  have hsz : zv.cells.toList.length = g := by simpa using hzs
  obtain ⟨r1, r2, r3⟩ := rowRep_spec l r hr
  have hlen : (List.replicate l zv.cells.toList).flatten.length = l * g := by rw [rep_len]; simp [hzs]
  refine ⟨r1, by omega, fun j u hu' => ?_⟩
  have hj : j < l * g := by
    rcases Nat.lt_or_ge j (l * g) with g' | g'
    · exact g'
    · rw [List.getElem?_eq_none (by omega)] at hu'; cases hu'
  rw [rep_rows zv.cells.toList g hsz h1 l j hj] at hu'
  have hq : j / g < l := by rw [Nat.div_lt_iff_lt_mul h1]; exact hj
  have hm : j % g < g := Nat.mod_lt _ h1
  obtain ⟨a, a1, a2⟩ := r3 _ hq _ hm
  have hj2 : j / g * g + j % g = j := by rw [Nat.mul_comm]; exact Nat.div_add_mod j g
  rw [hj2] at a2
  rw [Nat.zero_add]
  exact Rw_congr (a1.trans a2.symm) ((mkRow_of (ρ := ρ) z1 z2).2.2 _ _ hu')
theorem apRz_ok {e : Nat} {i : TypeInfo} {z : Value} {d : IntKind} (hs : RS ρ σ w) (hu : P.underlying t = some (.slice e)) (hi : P.info? e = some i) (hz : i.zero = some z) (hzs : z.cells.size = i.size) (hb : 0 < i.bytes) (h0 : 0 < i.size)
    (z1 : z.cells.toList.length ≤ 4096) (z2 : z.cells.toList.all oneV = true) (hk : P.underlying tx = some (.int d))
    (hx : Rv ρ (s T) S) (hy : Rv ρ (x T) X) (h : apRz e i.size i.bytes (mkRow (z.cells.toList.map cA1)) s x T σ = .ok v σ') : ∃ u w', (Builtin.append_ #[t, tx] ty #[S, X]).run P w = .ok u w' ∧ RRes σ ρ w v σ' u w' := by
  unfold apRz at h
  rcases onNum_or h with ⟨n, e1, h⟩ | h
  · obtain ⟨r, hr, h⟩ := orRA_ok h
    obtain ⟨q, rfl⟩ := Rv_num hy e1
    exact apRow_ok hs hu hi hz hzs hb hx (AS.zeros hu hi hz hzs hk (apRow_fit h) hb (cells_one z2) h0) (rep_src hzs h0 z1 z2 hr) h
  · cases h
theorem apKz_ok {κ : PK} {e : Nat} {i : TypeInfo} {d : IntKind} (hs : RS ρ σ w) (hu : P.underlying t = some (.slice e)) (hi : P.info? e = some i) (hz : i.zero = some (pkV κ 0)) (h1 : i.size = 1) (hb : 0 < i.bytes) (hk : P.underlying tx = some (.int d))
    (hx : Rv ρ (s T) S) (hy : Rv ρ (x T) X) (h : apKz κ e i.bytes s x T σ = .ok v σ') : ∃ u w', (Builtin.append_ #[t, tx] ty #[S, X]).run P w = .ok u w' ∧ RRes σ ρ w v σ' u w' := by
  unfold apKz at h
  rcases onNum_or h with ⟨n, e1, h⟩ | h
  · obtain ⟨q, rfl⟩ := Rv_num hy e1
    have hc : (pkV κ 0).cells = #[pkV κ 0] := one_cells (pkV_oneCell κ 0)
    have hzs : (pkV κ 0).cells.size = i.size := by rw [hc, h1]; rfl
    refine apNum_ok hs hi hz hzs h1 hb hx (AS.zeros hu hi hz hzs hk (apNum_fit h) hb (fun u hu => ?_) (by omega)) ⟨?_, Nat.pos_of_ne_zero (by simp), fun j u hj => ?_⟩ h
    · rw [hc] at hu
      rw [show u = pkV κ 0 by simpa using hu]
      exact pkV_oneCell κ 0
    · rw [rep_len, hc]; simp
    · rw [bits_zero]
      have := List.mem_of_getElem? hj
      obtain ⟨l, h3, h4⟩ := List.mem_flatten.1 this
      rw [(List.mem_replicate.1 h3).2, hc] at h4
      simpa using h4
  · cases h
end
end Go.Proofs.YtaogloegiffioaaGreatDoor
namespace Go.Proofs.YtaogloegiffioaaGreatDoor
inductive PI where
  | op (i : Nat)
  | ck (i : Nat)
def mem (i m : Nat) : Bool := Nat.testBit m i
def predsA (anc : List Nat) (o : Oper) : Nat := o.after.toList.foldl (fun m e => if Region.binds .any e then m ||| (anc.getD e.on 0 ||| 2 ^ e.on) else m) 0
def ancsA : List Oper → List Nat → List Nat
  | [], a => a
  | o :: l, a => ancsA l (a ++ [predsA a o])
def firstA (cls : Nat → Bool) (anc : List Nat) (done : Nat) : Nat → Nat → Option Nat
  | _, 0 => none
  | i, n + 1 => if !mem i done && (cls i && Nat.land (anc.getD i 0) done == anc.getD i 0) then some i else firstA cls anc done (i + 1) n
def cksA (rd : Nat → Bool) (a done : Nat) : Nat → Nat → List PI
  | _, 0 => []
  | i, n + 1 => if mem i done && (rd i && !mem i a) then .ck i :: cksA rd a done (i + 1) n else cksA rd a done (i + 1) n
def planA (ef rd : Nat → Bool) (anc : List Nat) (n : Nat) : Nat → Nat → List PI
  | 0, _ => []
  | k + 1, done => match firstA (fun i => !ef i) anc done 0 n with
    | some i => .op i :: planA ef rd anc n k (done ||| 2 ^ i)
    | none => match firstA ef anc done 0 n with
      | some i => .op i :: (cksA rd (anc.getD i 0) done 0 n ++ planA ef rd anc n k (done ||| 2 ^ i))
      | none => []
def readsA (P : Program) : Op → Bool
  | .load _ _ => true
  | .lookup _ _ _ _ => true
  | .slice t _ _ _ _ => match P.underlying t with
    | some (.pointer _) => true
    | some (.array _ _) => true
    | _ => false
  | .convert src _ _ => match P.underlying src with
    | some (.slice _) => true
    | _ => false
  | .call c => match c.callee with
    | .builtin .len => match P.underlying (c.argTypes.getD 0 0) with
      | some (.map _ _) => true
      | _ => false
    | _ => false
  | _ => false
end Go.Proofs.YtaogloegiffioaaGreatDoor
namespace Go.Proofs.YtaogloegiffioaaGreatDoor
noncomputable section
def noE : E := fun _ _ => .no
def noR : R := fun _ _ => .no
def bin_i64 (x y : G) : BinOp → E
  | .add => add_i64 x y
  | .sub => sub_i64 x y
  | .mul => mul_i64 x y
  | .quo => quo_i64 x y
  | .rem => rem_i64 x y
  | .and => and_i64 x y
  | .or => or_i64 x y
  | .xor => xor_i64 x y
  | .shl => shl_i64 x y
  | .shr => shr_i64 x y
  | .eql => eql_i64 x y
  | .neq => neq_i64 x y
  | .lss => lss_i64 x y
  | .leq => leq_i64 x y
  | .gtr => gtr_i64 x y
  | .geq => geq_i64 x y
  | _ => noE
def bin_u64 (x y : G) : BinOp → E
  | .add => add_u64 x y
  | .sub => sub_u64 x y
  | .mul => mul_u64 x y
  | .quo => quo_u64 x y
  | .rem => rem_u64 x y
  | .and => and_u64 x y
  | .or => or_u64 x y
  | .xor => xor_u64 x y
  | .shl => shl_u64 x y
  | .shr => shr_u64 x y
  | .eql => eql_u64 x y
  | .neq => neq_u64 x y
  | .lss => lss_u64 x y
  | .gtr => gtr_u64 x y
  | .geq => geq_u64 x y
  | _ => noE
def bin_u8 (x y : G) : BinOp → E
  | .add => add_u8 x y
  | .and => and_u8 x y
  | .or => or_u8 x y
  | .shl => shl_u8 x y
  | .shr => shr_u8 x y
  | .eql => eql_u8 x y
  | .lss => lss_u8 x y
  | .leq => leq_u8 x y
  | .gtr => gtr_u8 x y
  | .geq => geq_u8 x y
  | _ => noE
def bin_u32 (x y : G) : BinOp → E
  | .add => add_u32 x y
  | .mul => mul_u32 x y
  | .quo => quo_u32 x y
  | .rem => rem_u32 x y
  | .and => and_u32 x y
  | .shr => shr_u32 x y
  | .eql => eql_u32 x y
  | .geq => geq_u32 x y
  | _ => noE
def bin_i32 (x y : G) : BinOp → E
  | .add => add_i32 x y
  | .sub => sub_i32 x y
  | .mul => mul_i32 x y
  | .eql => eql_i32 x y
  | .lss => lss_i32 x y
  | .gtr => gtr_i32 x y
  | .geq => geq_i32 x y
  | _ => noE
def bin_s (x y : G) : BinOp → E
  | .add => add_s x y
  | .eql => eql_s x y
  | .neq => neq_s x y
  | .lss => lss_s x y
  | .gtr => gtr_s x y
  | .geq => geq_s x y
  | _ => noE
def bin_b (x y : G) : BinOp → E
  | .eql => eql_b x y
  | .neq => neq_b x y
  | _ => noE
def bin_p (x y : G) : BinOp → E
  | .eql => eql_p x y
  | .neq => neq_p x y
  | _ => noE
def bin_l (x y : G) : BinOp → E
  | .eql => eql_l x y
  | _ => noE
def bin_m (x y : G) : BinOp → E
  | .eql => eql_m x y
  | _ => noE
inductive I where
  | ev (e : E)
  | nw (e : N)
  | ex (e : R)
def noI : I := .ex noR
def oI : Option I → I
  | some i => i
  | none => noI
def cAV : Value → AV
  | .agg cs => if cs.toList.length ≤ 4096 && cs.toList.all oneV then .agg cs.toList.length (mkRow (cs.toList.map cA1)) else .lit (.agg cs)
  | .tuple cs => .lit (.tuple cs)
  | v => cA1 v
def opd : Operand → G
  | .tmp t => getN t
  | .const v => cst (cAV v)
  | .global g => cst (.lit (.pointer (some ⟨g, 0, none⟩)))
  | .func f => cst (.fn f .nil)
def argsS : List Operand → Tm → AVs
  | [] => fun _ => .nil
  | x :: l => fun T => .cons (opd x T) (argsS l T)
def argsT : List Operand → Option (Tm → Tm)
  | [] => some fun _ => e0
  | [a] => some fun T => e1 (opd a T)
  | [a, b] => some fun T => e2 (opd a T) (opd b T)
  | [a, b, c] => some fun T => e3 (opd a T) (opd b T) (opd c T)
  | [a, b, c, d] => some fun T => e4 (opd a T) (opd b T) (opd c T) (opd d T)
  | [a, b, c, d, e] => some fun T => e5 (opd a T) (opd b T) (opd c T) (opd d T) (opd e T)
  | [a, b, c, d, e, f] => some fun T => e6 (opd a T) (opd b T) (opd c T) (opd d T) (opd e T) (opd f T)
  | [a, b, c, d, e, f, g] => some fun T => e7 (opd a T) (opd b T) (opd c T) (opd d T) (opd e T) (opd f T) (opd g T)
  | [a, b, c, d, e, f, g, h] => some fun T => e8 (opd a T) (opd b T) (opd c T) (opd d T) (opd e T) (opd f T) (opd g T) (opd h T)
  | _ => none
variable (P : Program)
def pkA (t : TypeId) : Option PK := match P.underlying t with
  | some .bool => some .bool
  | some (.int .u8) => some .u8
  | some (.int .i64) => some .i64
  | some (.int .u64) => some .u64
  | some (.int .i32) => some .i32
  | some (.int .u32) => some .u32
  | _ => none
def bytesA (t : TypeId) : Option Nat := match P.info? t with
  | some i => if 0 < i.bytes then some i.bytes else none
  | none => none
def zvalA (t : TypeId) : Option AV := match isAggA P t, P.info? t with
  | some true, some i => match i.zero with
    | some (.agg cs) => if cs.toList.length ≤ 4096 && cs.toList.all oneV then some (.agg cs.toList.length (mkRow (cs.toList.map cA1))) else none
    | _ => none
  | some false, some i => match i.zero with
    | some z => some (cA1 z)
    | none => none
  | _, _ => none
def plA (place : Nat → Option (Nat × TypeId)) : List (Nat × Operand) → Option PL
  | [] => some .nil
  | (i, x) :: r => match place i with
    | none => none
    | some (off, t) => match plA place r with
      | none => none
      | some l => match isAggA P t with
        | some true => match sizeA P t with
          | some n => some (.many off n (opd x) l)
          | none => none
        | some false => some (.one off (opd x) l)
        | none => none
def keyA (t : TypeId) : Option Bool := match P.underlying t with
  | some .string => some true
  | some (.int .i64) => some false
  | _ => none
def eqlA (t : TypeId) : Option EL := match P.underlying t, sizeA P t with
  | some (.struct fs), some g => elsA P 3 0 g fs.toList .nil
  | _, _ => none
def optA : Option Operand → Option G
  | none => none
  | some x => some (opd x)
def loA : Option Operand → G
  | none => cst (.i64 0)
  | some x => opd x
def binI (op : BinOp) (t : TypeId) (x y : G) : E := match P.underlying t with
  | some (.int .i64) => bin_i64 x y op
  | some (.int .u64) => bin_u64 x y op
  | some (.int .u8) => bin_u8 x y op
  | some (.int .u32) => bin_u32 x y op
  | some (.int .i32) => bin_i32 x y op
  | some .string => bin_s x y op
  | some .bool => bin_b x y op
  | some (.pointer _) => bin_p x y op
  | some (.slice _) => bin_l x y op
  | some (.map _ _) => bin_m x y op
  | some (.struct _) => match op, eqlA P t with
    | .eql, some l => eql_a l x y
    | .neq, some l => neq_a l x y
    | _, _ => noE
  | _ => noE
def unI (op : UnOp) (t : TypeId) (x : G) : E := match op, P.underlying t with
  | .not, some .bool => not_b x
  | .neg, some (.int .i64) => neg_i x
  | .neg, some (.int .u64) => neg_u64 x
  | .neg, some (.int .u32) => neg_u32 x
  | .xor, some (.int .u64) => com_u64 x
  | .xor, some (.int .u32) => com_u32 x
  | .xor, some (.int .i64) => com_i64 x
  | _, _ => noE
def cvI (src dst : TypeId) (x : G) : I := match P.underlying src, P.underlying dst with
  | some (.int _), some (.int .i64) => .ev (cv_i64 x)
  | some (.int _), some (.int .i32) => .ev (cv_i32 x)
  | some (.int _), some (.int .u64) => .ev (cv_u64 x)
  | some (.int _), some (.int .u32) => .ev (cv_u32 x)
  | some (.int _), some (.int .u8) => .ev (cv_u8 x)
  | some .string, some .string => .ev (cv_st x)
  | some (.slice e), some .string => match P.underlying e with
    | some (.int .u8) => .ev (cv_str x)
    | _ => noI
  | some (.slice _), some (.slice e) => if src = dst then (match P.underlying e with
    | some (.int .u8) => .ex (cv_ss x)
    | _ => noI) else noI
  | some .string, some (.slice e) => match P.underlying e with
    | some (.int .u8) => .nw (cv_bs e x)
    | _ => noI
  | _, _ => noI
def slI (t : TypeId) (x : G) (lo hi mx : Option Operand) : E := match P.underlying t, mx with
  | some .string, none => sl_s x (loA lo) (optA hi)
  | some (.slice e), none => match sizeA P e with
    | some n => sl_l n x (loA lo) (optA hi)
    | none => noE
  | some (.slice e), some m => match sizeA P e, hi with
    | some n, some h => sl_m n x (loA lo) (opd h) (opd m)
    | _, _ => noE
  | some (.pointer a), none => match P.underlying a with
    | some (.array n e) => match sizeA P e with
      | some k => if n ≤ maxLen then sl_a n k x (loA lo) (optA hi) else noE
      | none => noE
    | _ => noE
  | some (.array n e), none => match sizeA P e with
    | some k => if n ≤ maxLen then sl_a n k x (loA lo) (optA hi) else noE
    | none => noE
  | _, _ => noE
def iadI (t : TypeId) (x i : G) : E := match P.underlying t with
  | some (.slice e) => match sizeA P e with
    | some n => iad_s n x i
    | none => noE
  | some (.array n e) => match sizeA P e with
    | some k => iad_a n k x i
    | none => noE
  | _ => noE
def ixI (t : TypeId) (x i : G) : E := match P.underlying t with
  | some .string => ix_s x i
  | some (.array n e) => match isAggA P e, sizeA P e with
    | some true, some k => ix_aN n k x i
    | some false, some 1 => ix_a1 n x i
    | _, _ => noE
  | _ => noE
def lenI (t : TypeId) (x : G) : E := match P.underlying t with
  | some (.array n _) => if n ≤ 9223372036854775807 then lenC n else noE
  | some (.pointer a) => match P.underlying a with
    | some (.array n _) => if n ≤ 9223372036854775807 then lenC n else noE
    | _ => noE
  | some .string => len_s x
  | some (.slice _) => len_l x
  | some (.map _ _) => len_m x
  | _ => noE
def appI (t tx : TypeId) (s x : G) : R := match P.underlying t with
  | some (.slice e) => match pkA P e, bytesA P e with
    | some k, some b => match P.underlying tx with
      | some .string => match k with
        | .u8 => apS e b s x
        | _ => noR
      | some (.int _) => apKz k e b s x
      | some (.slice _) => apK k e b s x
      | _ => noR
    | none, some b => match sizeA P e, zrowA P e with
      | some n, some z => match P.underlying tx with
        | some (.int _) => apRz e n b (mkRow (z.map cA1)) s x
        | some (.slice _) => apR e n b s x
        | _ => noR
      | _, _ => noR
    | _, _ => noR
  | _ => noR
def biI (b : Builtin) (t tx : TypeId) (a : List Operand) : I := match b, a with
  | .len, [x] => .ev (lenI P t (opd x))
  | .cap, [x] => match P.underlying t with
    | some (.slice _) => .ev (capA (opd x))
    | _ => noI
  | .append, [s, x] => .ex (appI P t tx (opd s) (opd x))
  | .copy, [d, s] => match P.underlying t with
    | some (.slice e) => match pkA P e with
      | some k => .ex (cpK k (opd d) (opd s))
      | none => match sizeA P e with
        | some n => .ex (cpR n (opd d) (opd s))
        | none => noI
    | _ => noI
  | .clear, [s] => match P.underlying t with
    | some (.slice e) => match sizeA P e, zrowA P e with
      | some n, some z => .ex (clrR n (mkRow (z.map cA1)) (opd s))
      | _, _ => noI
    | _ => noI
  | .delete, [m, k] => match P.underlying t with
    | some (.map kt _) => match keyA P kt with
      | some ks => .ex (dlt ks (opd m) (opd k))
      | none => noI
    | _ => noI
  | .min, [x, y] => .ev (mmA false (opd x) (opd y))
  | .max, [x, y] => .ev (mmA true (opd x) (opd y))
  | _, _ => noI
variable (tab : FuncId → Fu) (vtab : Nat → Nat → Fu)
def callI (c : Call) : I := match c.callee with
  | .value (.func f) => match argsT c.args.toList with
    | some l => .ex (cl (tab f) l)
    | none => noI
  | .value x => .ex (clV (vtab c.args.toList.length) (opd x) (argsS c.args.toList))
  | .builtin b => biI P b (c.argTypes.getD 0 0) (c.argTypes.getD 1 0) c.args.toList
  | .invoke _ _ => noI
def denI (o : Oper) : I := match o.op with
  | .move x => .ev (mv (opd x))
  | .assign x => .ev (mv (opd x))
  | .pick c a b => .ev (pick (opd c) (opd a) (opd b))
  | .alloc t => match zrowA P t with
    | some l => .nw (al t l.length (mkRow (l.map cA1)))
    | none => noI
  | .box t x => match isAggA P t, sizeA P t with
    | some true, some n => .nw (bxN t n (opd x))
    | some false, _ => .nw (bx1 t (opd x))
    | _, _ => noI
  | .build t ps => match P.underlying t, zrowA P t with
    | some (.struct fs), some z => match plA P (fun i => match fs[i]? with
      | some f => some (f.offset, f.type)
      | none => none) ps.toList with
      | some l => .ev (bld z.length (mkRow (z.map cA1)) l)
      | none => noI
    | some (.array _ e), some z => match sizeA P e with
      | some n => match plA P (fun i => some (i * n, e)) ps.toList with
        | some l => .ev (bld z.length (mkRow (z.map cA1)) l)
        | none => noI
      | none => noI
    | _, _ => noI
  | .buildSlice t len ps => match P.underlying t with
    | some (.slice e) => match pkA P e with
      | some k => match plA P (fun i => some (i, e)) ps.toList with
        | some l => .nw (bslk k e len l)
        | none => noI
      | none => match sizeA P e, zrowA P e with
        | some n, some z => match plA P (fun i => some (i * n, e)) ps.toList with
          | some l => .nw (bsl e len n (mkRow ((List.replicate len z).flatten.map cA1)) l)
          | none => noI
        | _, _ => noI
    | _ => noI
  | .load t a => match isAggA P t, sizeA P t with
    | some true, some n => .ev (ldN n (opd a))
    | some false, _ => .ev (ld1 (opd a))
    | _, _ => noI
  | .store t a x => match isAggA P t, sizeA P t with
    | some true, some n => .ex (stN n (opd a) (opd x))
    | some false, some 1 => .ex (st1 (opd a) (opd x))
    | _, _ => noI
  | .nilCheck x => .ev (nilc (opd x))
  | .binOp op t x y _ => .ev (binI P op t (opd x) (opd y))
  | .unOp op t x => .ev (unI P op t (opd x))
  | .convert src dst x => cvI P src dst (opd x)
  | .makeInterface t x => match P.underlying t with
    | some (.interface _) => noI
    | some _ => .ev (mkI t (opd x))
    | none => noI
  | .makeFunc (.func f) first caps => if first.toList = [] then .ev (mkF f (argsS caps.toList)) else noI
  | .makeMap _ none => .nw mmp
  | .makeSlice t l c => match P.underlying t with
    | some (.slice e) => match pkA P e, bytesA P e with
      | some k, some b => .nw (mslk k e b (opd l) (opd c))
      | none, some b => match sizeA P e, zrowA P e with
        | some n, some z => .nw (msl e n b (mkRow (z.map cA1)) (opd l) (opd c))
        | _, _ => noI
      | _, _ => noI
    | _ => noI
  | .slice t x lo hi mx => .ev (slI P t (opd x) lo hi mx)
  | .fieldAddr t x f => match P.underlying t with
    | some (.struct fs) => match fs[f]? with
      | some fd => .ev (fad fd.offset (opd x))
      | none => noI
    | _ => noI
  | .field t x f => match P.underlying t with
    | some (.struct fs) => match fs[f]? with
      | some fd => match isAggA P fd.type, sizeA P fd.type with
        | some true, some n => .ev (fldN fd.offset n (opd x))
        | some false, _ => .ev (fld1 fd.offset (opd x))
        | _, _ => noI
      | none => noI
    | _ => noI
  | .indexAddr t x i => .ev (iadI P t (opd x) (opd i))
  | .index t x i => .ev (ixI P t (opd x) (opd i))
  | .lookup t x k ok => match P.underlying t with
    | some (.map kt el) => match keyA P kt, zvalA P el with
      | some ks, some z => .ev (lkp ks z (opd x) (opd k) ok)
      | _, _ => noI
    | _ => noI
  | .mapUpdate t m k v => match P.underlying t with
    | some (.map kt _) => match keyA P kt with
      | some ks => .ex (mup ks (opd m) (opd k) (opd v))
      | none => noI
    | _ => noI
  | .range t x => match P.underlying t with
    | some .string => .nw (rng (opd x))
    | _ => noI
  | .next it true => .ex (nxt (opd it))
  | .typeAssert x _ t ok => match P.underlying t, zvalA P t with
    | some (.interface _), _ => noI
    | some _, some z => .ev (tas t z ok (opd x))
    | _, _ => noI
  | .extract t i => .ev (ext i (opd t))
  | .call c => callI P tab vtab c
  | _ => noI
def setA : Option Tmp → Tm → AV → Tm
  | some d => fun T v => setN d T v
  | none => ns
def step1 (ops : Array Oper) (o : Oper) (k : C) : C := match o.guard with
  | none => match denI P tab vtab o with
    | .ev e => ev e (setA o.dst) k
    | .nw e => nw e (setA o.dst) k
    | .ex e => ex e (setA o.dst) k
  | some (j, b) => match (ops[j]?).bind (·.dst) with
    | some d => match denI P tab vtab o with
      | .ev e => evg (getN d) b e (setA o.dst) k
      | .nw e => nwg (getN d) b e (setA o.dst) k
      | .ex e => exg (getN d) b e (setA o.dst) k
    | none => fun _ _ => .no
def chain (ops : Array Oper) : List Oper → C → C
  | [], k => k
  | o :: l, k => step1 P tab vtab ops o (chain ops l k)
def kindI : I → Nat
  | .ev _ => 0
  | .nw _ => 1
  | .ex _ => 2
def look2 (ops : Array Oper) (o : Oper) (k : C) : C := match o.dst, denI P tab vtab o with
  | some d, .ev e => match o.guard with
    | none => ck e (getN d) k
    | some (j, b) => match (ops[j]?).bind (·.dst) with
      | some g => ckg (getN g) b e (getN d) k
      | none => fun _ _ => .no
  | _, _ => fun _ _ => .no
def chainP (ops : Array Oper) : List PI → C → C
  | [], k => k
  | .op i :: l, k => match ops[i]? with
    | some o => step1 P tab vtab ops o (chainP ops l k)
    | none => fun _ _ => .no
  | .ck i :: l, k => match ops[i]? with
    | some o => look2 P tab vtab ops o (chainP ops l k)
    | none => fun _ _ => .no
def kindsA (ops : Array Oper) : List Nat := ops.toList.map fun o => kindI (denI P tab vtab o)
def rdsA (ops : Array Oper) : List Bool := ops.toList.map fun o => kindI (denI P tab vtab o) == 0 && readsA P o.op
def planR (ops : Array Oper) : List PI := (fun ks rs => planA (fun i => ks.getD i 2 == 2) (fun i => rs.getD i false) (ancsA ops.toList []) ops.size ops.size 0) (kindsA P tab vtab ops) (rdsA P tab vtab ops)
def regC (ops : Array Oper) (draw : Bool) (k : C) : C := match draw with
  | false => chain P tab vtab ops ops.toList k
  | true => chainP P tab vtab ops (planR P tab vtab ops) k
def denC : Code → C
  | .skip => nd
  | .label _ => nd
  | .region _ ops d => regC P tab vtab ops d nd
  | .seq (.region _ ops d) b => regC P tab vtab ops d (denC b)
  | .seq a b => sq (denC a) (denC b)
  | .cond c a b => ci (opd c) (denC a) (denC b)
  | .block id c => bk id (denC c)
  | .loop c => lp 100000 (denC c)
  | .exit id => xt id
  | .scope c => denC c
  | .ret => rt
  | _ => fun _ _ => .no
def resE : ResultVar → E
  | .tmp t => mv (getN t)
  | .cell a t => match isAggA P t, sizeA P t with
    | some true, some n => ldN n (getN a)
    | some false, _ => ld1 (getN a)
    | _, _ => noE
def bindL : List E → Tm → St → (AVs → OA) → OA
  | [], _, _, k => k .nil
  | e :: l, T, σ, k => OA.bind (e T σ) fun v => bindL l T σ fun vs => k (.cons v vs)
def resF : List ResultVar → E
  | [] => fun _ _ => .ok unitA
  | [r] => resE P r
  | l => fun T σ => bindL (l.map (resE P)) T σ fun vs => .ok (.tup vs)
def denB (fn : Func) : Fu := match fn.body with
  | some b => fun' (resF P fn.results.toList) (denC P tab vtab b)
  | none => noF
def denF (f : FuncId) : Fu := match P.funcs[f]? with
  | some fn => denB P tab vtab fn
  | none => noF
def denR (f : FuncId) : Fu := match P.funcs[f]? with
  | some fn => Nat.rec (motive := fun _ => Fu) (fun _ _ => .no) (fun _ F => denB P (fun g => Bool.rec (tab g) F (Nat.beq g f)) vtab fn) 100
  | none => noF
def tabL : List (FuncId × Fu) → FuncId → Fu
  | [], _ => noF
  | p :: l, g => Bool.rec (tabL l g) p.2 (Nat.beq g p.1)
def fitsA (vals : List FuncId) (n : Nat) (g : FuncId) : Bool := vals.contains g && (match P.funcs[g]? with
  | some fn => fn.params.size == n + fn.nfree || fn.params.size == n
  | none => false)
def vtabL (vals : List FuncId) (l : List (FuncId × Fu)) (n : Nat) : Nat → Fu := fun f => (l.filter fun p => fitsA P vals n p.1).foldr (fun p s => Bool.rec s p.2 (Nat.beq f p.1)) (fun _ _ => .no)
end
end Go.Proofs.YtaogloegiffioaaGreatDoor
