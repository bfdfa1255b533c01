import Derived.Test.YtaogloegiffioaaGreatDoorMD
import Derived.Test.YtaogloegiffioaaGreatDoorV9
import Derived.Test.YtaogloegiffioaaGreatDoorV10
import Derived.Test.YtaogloegiffioaaGreatDoorV12
import Derived.Test.YtaogloegiffioaaGreatDoorV11
import Derived.Test.YtaogloegiffioaaGreatDoorMA
import Derived.Sort.KeysCollected
import Derived.Sort.Walk0
import Derived.Test.YtaogloegiffioaaGreatDoorV13
import Derived.WideShapes
import Derived.Maps.Own
set_option linter.all false
set_option exponentiation.threshold 600
namespace Go.Proofs.YtaogloegiffioaaGreatDoor
def primFn (P : Program) (f k : Nat) : Bool := match P.funcs[f]? with
  | some fn => fn.name != "runtime.NumGoroutine" && (fn.body.isSome && fn.params.size == k)
  | none => false
theorem prim_of {P : Program} {f k : Nat} {F : Fu} (hp : primFn P f k = true) (h : ∀ (ρ : Pl) (σ : St) (w : World) (T : Tm) (args : List Value) (v : AV) (σ' : St), args.length = k → TA ρ T args.toArray → RS ρ σ w → F T σ = .ok v σ' →
    Calls P f args.toArray w fun e w' => ∃ X, e = .returned X ∧ RRes σ ρ w v σ' X w') : CallOk P f F := by
  intro ρ σ w T args v σ' hz hTA hs he o a K Q hK
  unfold primFn at hp
  cases hf : P.funcs[f]? with
  | none => rw [hf] at hp; cases hp
  | some fn =>
    rw [hf] at hp
    obtain ⟨p1, p2⟩ := Bool.and_eq_true_iff.1 hp
    obtain ⟨p2, p3⟩ := Bool.and_eq_true_iff.1 p2
    have hne : ¬ fn.name = "runtime.NumGoroutine" := by simpa using p1
    have hsz : args.size = k := (hz fn hf).trans (by simpa using p3)
    have hb : fn.body ≠ none := fun e => by rw [e] at p2; cases p2
    have hrun : (callFunc f args).run P w = .ok (.enter f args) w := by
      cases hbd : fn.body with
      | none => exact absurd hbd hb
      | some c => simp [callFunc, hf, hbd, hne]
    rw [hrun]
    show Calls P f args w _
    have := h ρ σ w T args.toList v σ' (by simpa using hsz) hTA hs he
    refine Calls.mono this fun e w' hX => ?_
    obtain ⟨X, rfl, ρ', h1, h2, h3⟩ := hX
    exact hK ρ' X w' h1 h2 h3
theorem TA0 {ρ : Pl} {T : Tm} {x : Value} {l : List Value} (h : TA ρ T (x :: l).toArray) : Rv ρ (g0 T) x := h 0 (by omega)
theorem TA1 {ρ : Pl} {T : Tm} {x y : Value} {l : List Value} (h : TA ρ T (x :: y :: l).toArray) : Rv ρ (g1 T) y := h 1 (by omega)
theorem TA2 {ρ : Pl} {T : Tm} {x y z : Value} {l : List Value} (h : TA ρ T (x :: y :: z :: l).toArray) : Rv ρ (g2 T) z := h 2 (by omega)
theorem len1 {l : List Value} (h : l.length = 1) : ∃ x, l = [x] := by
  match l, h with
  | [x], _ => exact ⟨x, rfl⟩
theorem len2 {l : List Value} (h : l.length = 2) : ∃ x y, l = [x, y] := by
  match l, h with
  | [x, y], _ => exact ⟨x, y, rfl⟩
theorem len3 {l : List Value} (h : l.length = 3) : ∃ x y z, l = [x, y, z] := by
  match l, h with
  | [x, y, z], _ => exact ⟨x, y, z, rfl⟩
theorem same_ok {ρ : Pl} {σ : St} {w w' : World} (h : RS ρ σ w) (hos : w'.os = w.os) (ht : w'.tape = w.tape) (ho : w'.output = w.output) (hz : w.heap.size ≤ w'.heap.size) (hf : ∀ r, r < w.heap.size → w'.heap[r]? = w.heap[r]?) : RS ρ σ w' ∧ Step σ ρ w σ ρ w' := by
  refine ⟨⟨fun b L e => ?_, h.inj, h.dom, h.free⟩, ⟨hos, ht, ho, fun _ _ h => h, hz, fun r hr _ => hf r hr, fun b L _ h ho => .inr ⟨b, L, h, ho⟩, Nat.le_refl _, fun _ _ h => .inl h, fun _ _ _ => rfl⟩⟩
  have hb2 := h.blk b L e
  generalize hkk : σ.h.at b = k' at *
  by_cases hd : k'.used
  · have := hb2.lt hd
    exact hb2.mono (fun _ _ h => h) (hf _ this.1) (hf _ this.2)
  · cases k' <;> first | trivial | exact absurd trivial hd
def bytesN (m : Nat) : List UInt8 := (List.range 64).map fun i => UInt8.ofNat (bitsAt 8 64 m i 1)
def secOf (p : Nat × Nat × Bool) : V.Sec := ⟨bytesN p.1, bytesN p.2.1, p.2.2⟩
theorem toNat_byte {x : Nat} (h : x < 256) : (UInt8.ofNat x).toNat = x := by rw [UInt8.toNat_ofNat', Nat.mod_eq_of_lt h]
theorem bits8 (n m i : Nat) : bitsAt 8 n m i 1 < 256 := by have := bitsAt_lt 8 n m i 1; simpa using this
theorem bv_bytes (n m k : Nat) : V.bv ((List.range k).map fun i => UInt8.ofNat (bitsAt 8 n m i 1)) = (List.range k).map fun i => .int .u8 (.ofNat (bitsAt 8 n m i 1)) := by
  unfold V.bv
  rw [List.map_map]
  refine List.map_congr_left fun i _ => ?_
  show Value.int .u8 ((UInt8.ofNat (bitsAt 8 n m i 1)).toNat : Int) = _
  rw [toNat_byte (bits8 n m i)]; rfl
theorem sec_cells (p : Nat × Nat × Bool) : (secOf p).cells = secC p := by
  unfold V.Sec.cells secOf secC secB bytesN
  rw [bv_bytes, bv_bytes]
theorem sec_ok (p : Nat × Nat × Bool) : (secOf p).Ok := ⟨by simp [secOf, bytesN], by simp [secOf, bytesN]⟩
theorem secs_cells (l : List (Nat × Nat × Bool)) : V.secCells (l.map secOf) = (l.map secC).flatten := by
  unfold V.secCells
  rw [List.map_map]
  congr 1
  exact List.map_congr_left fun p _ => sec_cells p
def DMof (l : List (Nat × Nat × Bool)) (c : Nat) : V.DM := ⟨l.map secOf, c, false, 0, false⟩
theorem DM_head {l : List (Nat × Nat × Bool)} {c n b : Nat} (h : l.length = n) : (DMof l c).head b = [.slice (some ⟨b, 0, none⟩) n n, .int .i64 (.ofNat c), .bool false, .int .i64 0, .bool false] := by
  simp [V.DM.head, DMof, h]
theorem dev_at {w : World} {L : Loc} {n c : Nat} {now lasts : Row} (h : RDev w L n now lasts c) : L.s = 0 ∧ ∃ l : List (Nat × Nat × Bool), l.length = n ∧ V.DevAt w L.r L.q (DMof l c) ∧ c ≤ 1000000 ∧ now.good ∧ n ≤ now.cap ∧ lasts.good ∧ n ≤ lasts.cap ∧
    ∀ (i : Nat) (p : Nat × Nat × Bool), l[i]? = some p → now.get i = .ok (.i64 p.1) ∧ lasts.get i = .ok (.i64 p.2.1) ∧ p.1 < 2 ^ 512 ∧ p.2.1 < 2 ^ 512 := by
  obtain ⟨h1, h2, h3, h4, h5, h6, h7, h8, h9, h10, l, h11, h12, h13⟩ := h
  refine ⟨h1, l, h12, ⟨?_, ?_, ?_⟩, h5, h7, h8, h9, h10, h13⟩
  · unfold V.Bl
    rw [DM_head h12]; exact h6
  · unfold V.Bl
    rw [show (DMof l c).secs = l.map secOf from rfl, secs_cells]; exact h11
  · refine ⟨fun s hs => ?_, by simpa [DMof, h12] using h3, by simpa [DMof, h12] using h4, by simp [DMof]⟩
    obtain ⟨p, _, rfl⟩ := List.mem_map.1 hs
    exact sec_ok p
theorem dev_of {w : World} {p b c n : Nat} {l : List (Nat × Nat × Bool)} {now lasts : Row} (h : V.DevAt w p b (DMof l c)) (hl : l.length = n) (hc : c ≤ 1000000) (g1 : now.good) (g2 : n ≤ now.cap) (g3 : lasts.good) (g4 : n ≤ lasts.cap)
    (hg : ∀ (i : Nat) (q : Nat × Nat × Bool), l[i]? = some q → now.get i = .ok (.i64 q.1) ∧ lasts.get i = .ok (.i64 q.2.1) ∧ q.1 < 2 ^ 512 ∧ q.2.1 < 2 ^ 512) : RDev w ⟨p, 5, b⟩ n now lasts c := by
  obtain ⟨h1, h2, h3, h4, h5, h6⟩ := h
  refine ⟨rfl, rfl, by simpa [DMof, hl] using h4, by simpa [DMof, hl] using h5, hc, ?_, g1, g2, g3, g4, l, ?_, hl, hg⟩
  · unfold V.Bl at h1
    rwa [DM_head hl] at h1
  · unfold V.Bl at h2
    rwa [show (DMof l c).secs = l.map secOf from rfl, secs_cells] at h2
theorem onDevP_ok {σ : St} {T : Tm} {f : Bid → Nat → Row → Row → Nat → RA} {v : AV} {σ' : St} (h : onDevP σ T f .no = .ok v σ') : ∃ b n now lasts c, g0 T = .p b 0 ∧ σ.h.at b = .dev n now lasts c ∧ f b n now lasts c = .ok v σ' := by
  unfold onDevP at h
  obtain ⟨b, o, e, h⟩ := onP_some h RA.ne
  obtain ⟨ho, h⟩ := boolRA_ok h
  have ho : o = 0 := Nat.eq_of_beq_eq_true ho
  subst ho
  obtain ⟨n, now, lasts, c, ek, h⟩ := onDev_some h RA.ne
  exact ⟨b, n, now, lasts, c, e, ek, h⟩
theorem dev_arg {ρ : Pl} {σ : St} {w : World} {T : Tm} {x : Value} {b : Bid} {n c : Nat} {now lasts : Row} (hs : RS ρ σ w) (hx : Rv ρ (g0 T) x) (e : g0 T = .p b 0) (ek : σ.h.at b = .dev n now lasts c) :
    ∃ L, Live σ ρ b L ∧ x = .pointer (some ⟨L.r, 0, none⟩) ∧ RDev w L n now lasts c := by
  rw [e] at hx
  obtain ⟨L, eL, rfl⟩ := hx
  have hb := hs.blk b L eL
  rw [ek] at hb
  have hb : RDev w L n now lasts c := hb
  refine ⟨L, ⟨eL, by rw [ek]; trivial⟩, ?_, hb⟩
  rw [hb.1]
set_option maxRecDepth 20000 in
theorem w77 : CallOk Tryz.prog 77 devLen := prim_of (k := 1) (by kernel_rfl) fun ρ σ w T args v σ' hl hTA hs h => by
  obtain ⟨x, rfl⟩ := len1 hl
  obtain ⟨b, n, now, lasts, c, e, ek, h⟩ := onDevP_ok h
  obtain ⟨L, hL, rfl, hd⟩ := dev_arg hs (TA0 hTA) e ek
  obtain ⟨_, l, hln, hD, _⟩ := dev_at hd
  injection h with h1 h2; subst h1 h2
  refine Calls.mono (V.len_c w L.r L.q _ hD) fun e w' ⟨he, hw⟩ => ?_
  subst hw
  refine ⟨_, he, ρ, ⟨?_, ?_⟩, hs, Step.refl _ _ _⟩
  · show Value.int .i64 (((DMof l c).secs.length : Nat) : Int) = _
    simp [DMof, hln]
  · have := hd.2.2.2.1; omega
theorem not_dead (l : List (Nat × Nat × Bool)) (c : Nat) : (DMof l c).isDead = false := rfl
set_option maxRecDepth 20000 in
theorem w173 : CallOk Tryz.prog 173 devDead := prim_of (k := 1) (by kernel_rfl) fun ρ σ w T args v σ' hl hTA hs h => by
  obtain ⟨x, rfl⟩ := len1 hl
  obtain ⟨b, n, now, lasts, c, e, ek, h⟩ := onDevP_ok h
  obtain ⟨L, hL, rfl, hd⟩ := dev_arg hs (TA0 hTA) e ek
  obtain ⟨_, l, hln, hD, _⟩ := dev_at hd
  injection h with h1 h2; subst h1 h2
  refine Calls.mono (V.dead_c w L.r L.q _ hD) fun e w' ⟨he, hw⟩ => ?_
  subst hw
  exact ⟨_, he, ρ, rfl, hs, Step.refl _ _ _⟩
set_option maxRecDepth 20000 in
theorem w338 : CallOk Tryz.prog 338 devRead := prim_of (k := 2) (by kernel_rfl) fun ρ σ w T args v σ' hl hTA hs h => by
  obtain ⟨x, y, rfl⟩ := len2 hl
  obtain ⟨b, n, now, lasts, c, e, ek, h⟩ := onDevP_ok h
  obtain ⟨L, hL, rfl, hd⟩ := dev_arg hs (TA0 hTA) e ek
  obtain ⟨_, l, hln, hD, _, _, _, _, _, hg⟩ := dev_at hd
  obtain ⟨i, e1, h⟩ := onI64_some h RA.ne
  have hy := TA1 hTA
  rw [e1] at hy
  obtain ⟨rfl, _⟩ := hy
  obtain ⟨hi, h⟩ := boolRA_ok h
  have hi : i < n := Nat.le_of_ble_eq_true hi
  obtain ⟨u, e2, h⟩ := RAofN_ok h
  obtain ⟨m, e3, h⟩ := onI64_some h RA.ne
  obtain ⟨hlast, rfl, rfl⟩ := alR_ok h
  have hp := List.getElem?_eq_getElem (l := l) (i := i) (by omega)
  obtain ⟨k1, k2, k3, k4⟩ := hg i _ hp
  rw [e2, e3] at k1
  injection k1 with k1; injection k1 with k1
  refine Calls.mono (V.read_c w L.r L.q _ hD i (by simp [DMof]; omega)) ?_
  rintro e w' ⟨⟨g, cp, rfl, hown⟩, hbel⟩
  obtain ⟨_, ⟨hc0, _⟩ | ⟨g', cap, cur, hv, hge, hcur, hcap, hmx, hsz, htk⟩⟩ := hown
  · cases hc0
  · injection hv with hv1 _ hv2
    injection hv1 with hv1; injection hv1 with hv1
    subst hv1 hv2
    have hnow : ((DMof l c).secs[i]'(by simp [DMof]; omega)).now = bytesN m := by
      simp only [DMof, List.getElem_map, secOf]
      rw [← k1]
    rw [hnow, Nat.mul_one] at htk
    rw [show V.bv (bytesN m) = (List.range 64).map fun i => Value.int .u8 (.ofNat (bitsAt 8 64 m i 1)) from bv_bytes 64 m 64] at htk
    have hmlt : m < 2 ^ 512 := by rw [k1]; exact k3
    have hRB : RB (pext ρ σ.nx ⟨g, cur.size, g⟩) w' ⟨g, cur.size, g⟩ (.pk .u8 5 64 m) := by
      refine ⟨rfl, cur, (0, 0), hcur, rfl, by show 0 + 64 ≤ _; omega, .inl rfl, by simpa [pkw] using hmlt, fun j hj => ?_⟩
      have := congrArg (fun l => l[j]?) htk
      simp only [List.getElem?_take, if_pos hj, List.getElem?_map, List.getElem?_range hj] at this
      simpa [pkw, pkV, Loc.s] using this
    obtain ⟨n1, n2⟩ := new_ok hs hlast (.pk .u8 5 64 m) ⟨g, cur.size, g⟩ hbel.os hbel.tape hbel.output hbel.size hbel.block hge hge hRB
    refine ⟨_, rfl, _, ⟨[_, _], ⟨_, _, rfl, ⟨_, cp, 0, ext_self _ _ _, rfl, .inl rfl, Nat.le_refl _, hcap, fun h => (by cases h), hmx, ?_⟩, _, _, rfl, ⟨rfl, by omega⟩, rfl⟩, rfl⟩, n1, n2⟩
    show 0 + 0 + cp * 1 ≤ cur.size
    omega
end Go.Proofs.YtaogloegiffioaaGreatDoor
namespace Go.Proofs.YtaogloegiffioaaGreatDoor
def cutB (N m o l : Nat) : List UInt8 := (List.range l).map fun i => UInt8.ofNat (bitsAt 8 N m (o + i) 1)
theorem bytes_set {m N x o l : Nat} (hN : o + l ≤ N) (hl : l ≤ 64) : cutB N x o l ++ (bytesN m).drop (cutB N x o l).length = bytesN (bitsSet 8 64 m 0 l (bitsAt 8 N x o l)) := by
  have hb := bitsAt_lt 8 N x o l
  apply List.ext_getElem
  · simp [cutB, bytesN]; omega
  · intro j h1 h2
    have hj : j < 64 := by simpa [bytesN] using h2
    have key := bits_set_cell (m := m) hb (show 0 + l ≤ 64 by omega) hj
    have e2 : (bytesN (bitsSet 8 64 m 0 l (bitsAt 8 N x o l)))[j] = UInt8.ofNat (bitsAt 8 64 (bitsSet 8 64 m 0 l (bitsAt 8 N x o l)) j 1) := by simp [bytesN]
    refine Eq.trans ?_ (e2.trans (congrArg UInt8.ofNat key)).symm
    by_cases h : j < l
    · rw [if_pos ⟨Nat.zero_le _, by omega⟩, List.getElem_append_left (by simpa [cutB] using h), Nat.sub_zero, bits_sub (by omega) hN]
      simp [cutB]
    · rw [if_neg (by omega), List.getElem_append_right (by simp [cutB]; omega)]
      simp only [List.getElem_drop, bytesN, List.getElem_map, List.getElem_range]
      congr 2
      simp [cutB]; omega
theorem cut_sl {w : World} {g off c : Nat} {cur : Array Value} {t : TypeId} {fr : Nat × Nat} {N m o l : Nat} (h : w.heap[g]? = some (.cells cur t fr)) (hc : ∀ i, i < l → cur[off + i]? = some (pkV .u8 (bitsAt 8 N m (o + i) 1))) (hn : l ≤ c) (hm : c ≤ maxLen) :
    V.Sl w w.heap.size (.slice (some ⟨g, off, none⟩) l c) (cutB N m o l) := by
  have hlen : (cutB N m o l).length = l := by simp [cutB]
  unfold V.Sl V.Sv
  rw [hlen]
  refine ⟨by simp [V.bv, cutB], by unfold maxLen at hm; omega, _, c, rfl, hn, hm, (by simp), .inr ⟨g, off, rfl, ?_, fun i hi => ?_⟩⟩
  · rcases Nat.lt_or_ge g w.heap.size with h1 | h1
    · exact h1
    · rw [Array.getElem?_eq_none h1] at h; cases h
  · have hi : i < l := by simpa [V.bv, cutB] using hi
    have := hc i hi
    simp only [World.cell?, h, V.bv, cutB, List.map_map, List.getElem_map, List.getElem_range, Function.comp]
    show cur[off + i]? = some (.int .u8 ((UInt8.ofNat _).toNat : Int))
    rw [this, toNat_byte (bits8 _ _ _)]; rfl
theorem DM_write {l : List (Nat × Nat × Bool)} {c i : Nat} {p : Nat × Nat × Bool} (hp : l[i]? = some p) {L : List UInt8} {m' : Nat} (h : L ++ (bytesN p.1).drop L.length = bytesN m') :
    (DMof l c).write i L = DMof (l.set i (m', p.2.1, true)) (c + 1) := by
  have : (l.map secOf).modify i (·.put L) = (l.set i (m', p.2.1, true)).map secOf := by
    apply List.ext_getElem?
    intro j
    rw [List.getElem?_modify, List.getElem?_map, List.getElem?_map, List.getElem?_set]
    by_cases hj : i = j
    · subst hj
      have hlt : i < l.length := (List.getElem?_eq_some_iff.1 hp).1
      simp only [hp, if_pos hlt, ite_true, Option.map_some]
      show some (V.Sec.mk _ _ _) = some (V.Sec.mk _ _ _)
      show some (V.Sec.mk (L ++ (bytesN p.1).drop L.length) _ _) = _
      rw [h]; rfl
    · simp [hj]
  simp only [V.DM.write, V.DM.burned, DMof, this]
  rfl
theorem RAnat {k : Bool} {a : RA} {v : AV} {σ' : St} (h : (Bool.rec .no a k : RA) = .ok v σ') : k = true ∧ a = .ok v σ' := by
  cases k
  · cases h
  · exact ⟨rfl, h⟩
set_option maxRecDepth 20000 in
theorem w179 : CallOk Tryz.prog 179 devWrite := prim_of (k := 3) (by kernel_rfl) fun ρ σ w T args v σ' hl hTA hs h => by
  obtain ⟨x, y, z, rfl⟩ := len3 hl
  obtain ⟨b, n, now, lasts, c, e, ek, h⟩ := onDevP_ok h
  obtain ⟨L, hL, rfl, hd⟩ := dev_arg hs (TA0 hTA) e ek
  obtain ⟨hs0, l, hln, hD, hc, g1', g2', g3', g4', hg⟩ := dev_at hd
  obtain ⟨i, e1, h⟩ := onI64_some h RA.ne
  have hy := TA1 hTA
  rw [e1] at hy
  obtain ⟨rfl, _⟩ := hy
  obtain ⟨hi, h⟩ := RAnat h
  have hi : i < n := Nat.le_of_ble_eq_true hi
  obtain ⟨b2, o, len, cc, ww, kn, e2, h⟩ := onSl_some h RA.ne
  have hz := TA2 hTA
  rw [e2] at hz
  obtain ⟨L2, c', a, eL2, rfl, ha, hlc, hcc, _, hmx, hin⟩ := hz
  obtain ⟨κ, t, N, m2, ek2, h⟩ := onPk_some h RA.ne
  obtain ⟨hchk, hh'⟩ := RAnat h
  obtain ⟨q1, q2⟩ := Bool.and_eq_true_iff.1 hchk
  obtain ⟨q3, q4⟩ := Bool.and_eq_true_iff.1 q1
  obtain ⟨q5, q6⟩ := Bool.and_eq_true_iff.1 q2
  have q3 : κ = .u8 := by cases κ <;> first | rfl | exact absurd q3 (by decide)
  subst q3
  have q4 : o + len ≤ N := Nat.le_of_ble_eq_true q4
  have q5 : len ≤ 64 := Nat.le_of_ble_eq_true q5
  have q6 : c ≤ 999999 := Nat.le_of_ble_eq_true q6
  obtain ⟨u, e3, h⟩ := RAofN_ok hh'
  obtain ⟨m, e4, h⟩ := onI64_some h RA.ne
  injection h with h1 h2; subst h1 h2
  have hp := List.getElem?_eq_getElem (l := l) (i := i) (by omega)
  obtain ⟨k1, k2, k3, k4⟩ := hg i _ hp
  rw [e3, e4] at k1
  injection k1 with k1; injection k1 with k1
  have hb2 := hs.blk b2 L2 eL2
  rw [ek2] at hb2
  obtain ⟨hq2, arr, fr, hh, hsz, hN, hfr, hm2, hcell⟩ := hb2
  have hSl : V.Sl w w.heap.size (.slice (some ⟨L2.r, a, none⟩) len c') (cutB N m2 o len) := by
    refine cut_sl (N := N) (m := m2) (o := o) hh (fun j hj => ?_) (by omega) hmx
    have hoff : a = L2.s + o := by rcases ha with ha | ha <;> omega
    have := hcell (o + j) (by omega)
    rw [hoff, Nat.add_assoc, this]; rfl
  have hset := bytes_set (m := l[i].1) (x := m2) q4 q5
  have hcut : (cutB N m2 o len).length ≤ 64 := by simpa [cutB] using q5
  refine Calls.mono (V.write_c w L.r L.q _ hD rfl hc i (by simp [DMof]; omega) _ _ _ hSl hcut) fun e w' ⟨he, hD', hF⟩ => ?_
  rw [DM_write hp hset] at hD'
  obtain ⟨s1, s2, s3, s4⟩ := Row.set_good g1' (show i < now.cap by omega) 0 (.i64 (bitsSet 8 64 m 0 len (bitsAt 8 N m2 o len)))
  have hbs := bits_set_lt (m := m) (bitsAt_lt 8 N m2 o len) (show 0 + len ≤ 64 by omega) (by rw [k1]; exact k3)
  have hR : RDev w' ⟨L.r, 5, L.q⟩ n (now.set 0 i (.i64 (bitsSet 8 64 m 0 len (bitsAt 8 N m2 o len)))) lasts (c + 1) := by
    refine dev_of hD' (by simpa using hln) (by omega) s1 (by omega) g3' g4' fun j q hq => ?_
    rw [List.getElem?_set] at hq
    by_cases hj : i = j
    · subst hj
      rw [if_pos rfl, if_pos (by omega)] at hq
      injection hq with hq; subst hq
      rw [← k1]
      exact ⟨s3, k2, hbs, k4⟩
    · rw [if_neg hj] at hq
      obtain ⟨f1, f2, f3, f4⟩ := hg j q hq
      have hjl : j < l.length := (List.getElem?_eq_some_iff.1 hq).1
      exact ⟨s4 j (by omega) (fun e => hj e.symm) _ f1, f2, f3, f4⟩
  obtain ⟨L', rfl⟩ : ∃ L', L' = L := ⟨L, rfl⟩
  have hLe : (⟨L'.r, 5, L'.q⟩ : Loc) = L' := by
    have := hd.2.1; cases L'; simp_all
  rw [hLe] at hR
  obtain ⟨n1, n2⟩ := put_ok (k := .dev n (now.set 0 i (.i64 (bitsSet 8 64 m 0 len (bitsAt 8 N m2 o len)))) lasts (Nat.succ c)) hs hL hR hF.os hF.tape hF.output hF.size fun r hr ho => hF.block r hr fun hm => ho (by rcases List.mem_cons.1 hm with rfl | hm; exact .inl rfl; exact .inr (List.mem_singleton.1 hm).symm)
  exact ⟨_, he, ρ, ⟨rfl, by omega⟩, n1, n2⟩
theorem zero_sec : secOf (0, 0, false) = V.zeroSec := by kernel_rfl
theorem DM_flush {l : List (Nat × Nat × Bool)} {c : Nat} : (DMof l c).flush = DMof (l.map fun p => (p.1, p.1, false)) (c + 1) := by
  simp only [V.DM.flush, V.DM.burned, DMof, List.map_map]
  rfl
set_option maxRecDepth 20000 in
theorem w252 : CallOk Tryz.prog 252 devFlush := prim_of (k := 1) (by kernel_rfl) fun ρ σ w T args v σ' hl hTA hs h => by
  obtain ⟨x, rfl⟩ := len1 hl
  obtain ⟨b, n, now, lasts, c, e, ek, h⟩ := onDevP_ok h
  obtain ⟨L, hL, rfl, hd⟩ := dev_arg hs (TA0 hTA) e ek
  obtain ⟨hs0, l, hln, hD, hc, g1', g2', g3', g4', hg⟩ := dev_at hd
  obtain ⟨q6, h⟩ := RAnat h
  have q6 : c ≤ 999999 := Nat.le_of_ble_eq_true q6
  injection h with h1 h2; subst h1 h2
  refine Calls.mono (V.flush_c w L.r L.q _ hD rfl hc) fun e w' ⟨he, hD', hF⟩ => ?_
  rw [DM_flush] at hD'
  have hR : RDev w' ⟨L.r, 5, L.q⟩ n now now (c + 1) := by
    refine dev_of hD' (by simpa using hln) (by omega) g1' g2' g1' g2' fun j q hq => ?_
    rw [List.getElem?_map] at hq
    cases hq2 : l[j]? with
    | none => rw [hq2] at hq; cases hq
    | some q2 =>
      rw [hq2] at hq
      injection hq with hq; subst hq
      obtain ⟨f1, f2, f3, f4⟩ := hg j q2 hq2
      exact ⟨f1, f1, f3, f3⟩
  have hLe : (⟨L.r, 5, L.q⟩ : Loc) = L := by
    have := hd.2.1; cases L; simp_all
  rw [hLe] at hR
  obtain ⟨n1, n2⟩ := put_ok (k := .dev n now now (Nat.succ c)) hs hL hR hF.os hF.tape hF.output hF.size fun r hr ho => hF.block r hr fun hm => ho (by rcases List.mem_cons.1 hm with rfl | hm; exact .inl rfl; exact .inr (List.mem_singleton.1 hm).symm)
  exact ⟨_, he, ρ, ⟨rfl, by omega⟩, n1, n2⟩
theorem crash_nil : ∀ (l : List (Nat × Nat × Bool)) (j : Nat), V.crashFrom (l.map secOf) j [] = (l.map fun p => (p.2.1, p.2.1, false)).map secOf
  | [], _ => rfl
  | p :: l, j => by
    simp only [List.map_cons, V.crashFrom, crash_nil l]
    congr 1
    simp [V.Sec.fallen, secOf]
theorem isNil_ok {v : AV} (h : isNilSl v = true) : v = .lit (.slice none 0 0) := by
  obtain ⟨v', rfl, hv⟩ := onLit_some h (by decide)
  rw [vSl00_ok hv]
theorem sel8_same {α : Type} (i : Nat) (a : α) : sel8 i a a a a a a a a = a := by
  rw [sel8_eq]; unfold pick8; split <;> rfl
theorem zdev_get (j : Nat) : zdev.get j = .ok (.i64 0) := by
  unfold zdev row8 row1
  rw [Row.get_n, sel8_same, Row.get_n, sel8_same, Row.get_n, sel8_same, Row.get_l, sel8_same]
theorem row8_ok {r : Row} {d : Nat} (h : r.ok d) : (row8 (8 ^ (d + 1)) r).ok (d + 1) := Row.ok_n.2 ⟨d, rfl, rfl, fun i _ => by rw [sel8_same]; exact h⟩
theorem zdev_ok : zdev.ok 3 := row8_ok (row8_ok (row8_ok (Row.ok_l _ _ _ _ _ _ _ _)))
theorem zdev_cap : zdev.cap = 4096 := by kernel_rfl
set_option maxRecDepth 20000 in
theorem w123 : CallOk Tryz.prog 123 devCrash := prim_of (k := 2) (by kernel_rfl) fun ρ σ w T args v σ' hl hTA hs h => by
  obtain ⟨x, y, rfl⟩ := len2 hl
  obtain ⟨hk, h⟩ := RAnat h
  obtain ⟨b, n, now, lasts, c, e, ek, h⟩ := onDevP_ok h
  obtain ⟨L, hL, rfl, hd⟩ := dev_arg hs (TA0 hTA) e ek
  obtain ⟨hs0, l, hln, hD, hc, g1', g2', g3', g4', hg⟩ := dev_at hd
  have hy := TA1 hTA
  rw [isNil_ok hk] at hy
  have hy : y = .slice none 0 0 := hy
  subst hy
  obtain ⟨hlast, rfl, rfl⟩ := alR_ok h
  refine Calls.mono (V.crash_c w L.r L.q _ hD w.heap.size (.slice none 0 0) [] (V.Sv.nil w _ 1) (Nat.le_refl _)) fun e w' ⟨hM, hB⟩ => ?_
  obtain ⟨p, b', he, hp, hb', hD'⟩ := hM
  have hcr : (DMof l c).crash [] = DMof (l.map fun p => (p.2.1, p.2.1, false)) 0 := by
    simp only [V.DM.crash, DMof, crash_nil]
  rw [hcr] at hD'
  have hR : RDev w' ⟨p, 5, b'⟩ n lasts lasts 0 := by
    refine dev_of hD' (by simpa using hln) (by omega) g3' g4' g3' g4' fun j q hq => ?_
    rw [List.getElem?_map] at hq
    cases hq2 : l[j]? with
    | none => rw [hq2] at hq; cases hq
    | some q2 =>
      rw [hq2] at hq
      injection hq with hq; subst hq
      obtain ⟨f1, f2, f3, f4⟩ := hg j q2 hq2
      exact ⟨f2, f2, f4, f4⟩
  obtain ⟨n1, n2⟩ := new_ok hs hlast (.dev n lasts lasts 0) ⟨p, 5, b'⟩ hB.os hB.tape hB.output hB.size hB.block hp hb' hR
  exact ⟨_, he, _, ⟨_, ext_self _ _ _, rfl⟩, n1, n2⟩
set_option maxRecDepth 20000 in
theorem w44 : CallOk Tryz.prog 44 devNew := prim_of (k := 1) (by kernel_rfl) fun ρ σ w T args v σ' hl hTA hs h => by
  obtain ⟨x, rfl⟩ := len1 hl
  obtain ⟨i, e1, h⟩ := onI64_some h RA.ne
  have hy := TA0 hTA
  rw [e1] at hy
  obtain ⟨rfl, _⟩ := hy
  obtain ⟨hlast, rfl, rfl⟩ := alR_ok h
  obtain ⟨n, hn⟩ : ∃ n, n = Nat.min (Nat.max i 1) 2048 := ⟨_, rfl⟩
  have hn2 : n = min (max i 1) 2048 := hn
  refine Calls.mono (V.new_c w (i : Int)) fun e w' ⟨⟨p, b', he, hp, hb', hD'⟩, hB⟩ => ?_
  have hni : (min (max (i : Int) 1) 2048).toNat = n := by omega
  rw [hni] at hD'
  have hfr : V.fresh n = DMof (List.replicate n (0, 0, false)) 0 := by
    simp [V.fresh, DMof, zero_sec]
  rw [hfr] at hD'
  have hR : RDev w' ⟨p, 5, b'⟩ n zdev zdev 0 := by
    refine dev_of hD' (by simp) (by omega) ⟨3, zdev_ok⟩ (by rw [zdev_cap]; omega) ⟨3, zdev_ok⟩ (by rw [zdev_cap]; omega) fun j q hq => ?_
    obtain ⟨hj, hq⟩ := List.getElem?_eq_some_iff.1 hq
    simp at hj hq
    subst hq
    exact ⟨zdev_get j, zdev_get j, by decide, by decide⟩
  rw [← hn] at *
  obtain ⟨n1, n2⟩ := new_ok hs hlast (.dev n zdev zdev 0) ⟨p, 5, b'⟩ hB.os hB.tape hB.output hB.size hB.block hp hb' hR
  exact ⟨_, he, _, ⟨_, ext_self _ _ _, rfl⟩, n1, n2⟩
end Go.Proofs.YtaogloegiffioaaGreatDoor
namespace Go.Proofs.YtaogloegiffioaaGreatDoor
theorem srcB {ρ : Pl} {σ σ' : St} {w : World} {a v : AV} {X : Value} {f : Nat → Nat → RA} (hs : RS ρ σ w) (hx : Rv ρ a X) (h : pkSrc .u8 σ a f = .ok v σ') :
    ∃ k y, f k y = .ok v σ' ∧ ((∃ b off c, X = .slice (some ⟨b, off, none⟩) k c ∧ ∀ i (h : i < (cutB k y 0 k).length), w.cell? ⟨b, off + i, none⟩ = some (.int .u8 ((cutB k y 0 k)[i].toNat : Int))) ∧ k ≤ 9223372036854775807 ∨ (∃ c, X = .slice none 0 c) ∧ k = 0) := by
  unfold pkSrc at h
  rcases onSl_or h with ⟨b, o, l, c, w', kn, e1, h⟩ | h
  · obtain ⟨κ', tt, n, m, ek, h⟩ := onPk_some h RA.ne
    obtain ⟨c0, h'⟩ := boolRA_ok h
    obtain ⟨c0, c1⟩ := Bool.and_eq_true_iff.1 c0
    rw [← pkEq_ok c0] at ek
    have c1 : o + l ≤ n := Nat.le_of_ble_eq_true c1
    rw [e1] at hx
    obtain ⟨L, c', ad, eL, rfl, ha, g1, g2, g3, g4, g5⟩ := hx
    have hb := hs.blk b L eL
    rw [ek] at hb
    obtain ⟨_, arr, fr, e, k1, k2, k3, k4, k5⟩ := hb
    refine ⟨l, _, h', .inl ⟨⟨L.r, ad, c', rfl, fun i hi => ?_⟩, by unfold maxLen at g4; omega⟩⟩
    have hi : i < l := by simpa [cutB] using hi
    rw [ha.resolve_right (by omega)]
    have := k5 (o + i) (by omega)
    simp only [World.cell?, e, cutB, List.getElem_map, List.getElem_range]
    have hb3 : bitsAt 8 l (bitsAt (pkw .u8) n m o l) i 1 = bitsAt 8 n m (o + i) 1 := bits_sub (w := 8) (by omega) c1
    rw [Nat.add_assoc, this, toNat_byte (bits8 _ _ _), Nat.zero_add, hb3]
    rfl
  · obtain ⟨u, e1, h⟩ := onLit_some h RA.ne
    obtain ⟨hv, h⟩ := boolRA_ok h
    obtain ⟨c, rfl⟩ := vSl0_ok hv
    rw [e1] at hx
    exact ⟨0, 0, h, .inr ⟨⟨c, hx⟩, rfl⟩⟩
theorem crcStep_eq (X : BitVec 32) : crcStep X.toNat = (V.cstep X).toNat := by
  have h1 : (X &&& 1#32).toNat = X.toNat % 2 := by
    rw [BitVec.toNat_and]; exact Nat.and_one_is_mod _
  have h2 : (X >>> 1).toNat = X.toNat >>> 1 := BitVec.toNat_ushiftRight _ _
  unfold crcStep V.cstep
  rw [BitVec.toNat_xor, h2]
  rcases Nat.mod_two_eq_zero_or_one X.toNat with h | h
  · have hz : X &&& 1#32 = 0#32 := BitVec.eq_of_toNat_eq (by rw [h1, h]; rfl)
    rw [hz, show Nat.beq (Nat.mod X.toNat 2) 1 = false by rw [show Nat.mod X.toNat 2 = 0 from h]; rfl]
    simp
  · have hz : X &&& 1#32 = 1#32 := BitVec.eq_of_toNat_eq (by rw [h1, h]; rfl)
    rw [hz, show Nat.beq (Nat.mod X.toNat 2) 1 = true by rw [show Nat.mod X.toNat 2 = 1 from h]; rfl]
    rfl
theorem crcB_eq (X : BitVec 32) {c : Nat} (hc : c < 256) : crcB X.toNat c = (V.cbyte X (UInt8.ofNat c)).toNat := by
  have h0 : Nat.xor X.toNat c = (X ^^^ BitVec.ofNat 32 (UInt8.ofNat c).toNat).toNat := by
    rw [BitVec.toNat_xor, toNat_byte hc, BitVec.toNat_ofNat, Nat.mod_eq_of_lt (by omega)]; rfl
  unfold crcB V.cbyte
  rw [h0]
  simp only [crcStep_eq, V.csteps]
theorem crcL_eq (n m : Nat) : ∀ (k : Nat) (X : BitVec 32), k ≤ n → crcL n m k X.toNat = ((cutB n m (n - k) k).foldl V.cbyte X).toNat
  | 0, X, _ => rfl
  | k + 1, X, h => by
    have e : cutB n m (n - (k + 1)) (k + 1) = UInt8.ofNat (bitsAt 8 n m (n - (k + 1)) 1) :: cutB n m (n - k) k := by
      unfold cutB
      rw [List.range_succ_eq_map, List.map_cons, List.map_map]
      congr 1
      refine List.map_congr_left fun i _ => ?_
      show UInt8.ofNat (bitsAt 8 n m (n - (k + 1) + (i + 1)) 1) = _
      rw [show n - (k + 1) + (i + 1) = n - k + i by omega]
    rw [e]
    show crcL n m k (crcB X.toNat (bitsAt 8 n m (n - (k + 1)) 1)) = _
    rw [crcB_eq X (bits8 _ _ _), crcL_eq n m k _ (by omega)]
    rfl
theorem crc_eq (n m : Nat) (X : BitVec 32) : Nat.xor (crcL n m n (Nat.xor X.toNat 4294967295)) 4294967295 = (V.crc X (cutB n m 0 n)).toNat := by
  have hx : ∀ Y : BitVec 32, Nat.xor Y.toNat 4294967295 = (~~~ Y).toNat := fun Y => by
    rw [← BitVec.xor_allOnes, BitVec.toNat_xor]; rfl
  rw [hx, crcL_eq n m n _ (Nat.le_refl _), hx, Nat.sub_self]; rfl
set_option maxRecDepth 20000 in
theorem w313 : CallOk Tryz.prog 313 crcMore := prim_of (k := 2) (by kernel_rfl) fun ρ σ w T args v σ' hl hTA hs h => by
  obtain ⟨x, y, rfl⟩ := len2 hl
  obtain ⟨s, e1, h⟩ := onU32_some h RA.ne
  have hx := TA0 hTA
  rw [e1] at hx
  obtain ⟨rfl, hs'⟩ := hx
  obtain ⟨k, y', h, hc⟩ := srcB hs (TA1 hTA) h
  injection h with h1 h2; subst h1 h2
  have hX : (BitVec.ofNat 32 s).toNat = s := by rw [BitVec.toNat_ofNat, Nat.mod_eq_of_lt (by omega)]
  have hlen : (cutB k y' 0 k).length = k := by simp [cutB]
  have hfin : Rv ρ (.u32 (Nat.xor (crcL k y' k (Nat.xor s 4294967295)) 4294967295)) (V.u32 (V.crc (BitVec.ofNat 32 s) (cutB k y' 0 k))) := by
    have := crc_eq k y' (BitVec.ofNat 32 s)
    rw [hX] at this
    rw [this]
    exact ⟨rfl, (V.crc (BitVec.ofNat 32 s) (cutB k y' 0 k)).isLt⟩
  rcases hc with ⟨⟨b, off, c, rfl, hc⟩, hk⟩ | ⟨⟨c, rfl⟩, rfl⟩
  · have := V.more_any (BitVec.ofNat 32 s) b off c (cutB k y' 0 k) w (by omega) hc
    rw [hlen] at this
    rw [V.u32, hX] at this
    refine Calls.mono this fun e w' ⟨he, hw⟩ => ?_
    subst hw
    exact ⟨_, he, ρ, hfin, hs, Step.refl _ _ _⟩
  · have := V.more_none (BitVec.ofNat 32 s) none c w
    rw [V.u32, hX] at this
    refine Calls.mono this fun e w' ⟨he, hw⟩ => ?_
    subst hw
    refine ⟨_, he, ρ, ?_, hs, Step.refl _ _ _⟩
    have hz : V.crc (BitVec.ofNat 32 s) (cutB 0 y' 0 0) = BitVec.ofNat 32 s := by simp [V.crc, cutB]
    rw [hz, V.u32, hX] at hfin
    exact hfin
end Go.Proofs.YtaogloegiffioaaGreatDoor
namespace Go.Proofs.YtaogloegiffioaaGreatDoor
def ld (L c : Nat) : Nat := Nat.mod (Nat.shiftRight L (Nat.mul 4 c)) 16
def dot (u v : Nat → Nat) : Nat → Nat
  | 0 => 0
  | j + 1 => dot u v j + u j * v j
theorem ld_eq (L c : Nat) : ld L c = L / 16 ^ c % 16 := by
  show (L >>> (4 * c)) % 16 = _
  rw [Nat.shiftRight_eq_div_pow, Nat.pow_mul]
theorem ld_add {L b c : Nat} (hb : b < 8) (hc : c < 8) (h : ld L b ≤ 3) : ld (Nat.add L (Nat.pow 16 b)) c = ld L c + if c = b then 1 else 0 := by
  rw [ld_eq] at h
  rw [ld_eq, ld_eq]
  show (L + 16 ^ b) / 16 ^ c % 16 = _
  have key : ∀ b, b < 8 → L / 16 ^ b % 16 ≤ 3 → ∀ c, c < 8 → (L + 16 ^ b) / 16 ^ c % 16 = L / 16 ^ c % 16 + if c = b then 1 else 0 := by
    intro b hb h c hc
    rcases b with _ | _ | _ | _ | _ | _ | _ | _ | b <;> rcases c with _ | _ | _ | _ | _ | _ | _ | _ | c <;> first | omega | (simp only [Nat.reduceAdd, Nat.reducePow, Nat.reduceEqDiff, if_true, if_false, Nat.zero_add] at *; omega)
  exact key b hb h c hc
theorem dot_add {u v v' : Nat → Nat} {b : Nat} : ∀ j, (∀ c, c < j → v' c = v c + if c = b then 1 else 0) → dot u v' j = dot u v j + if b < j then u b else 0
  | 0, _ => by simp [dot]
  | j + 1, h => by
    have ih := dot_add j (u := u) fun c hc => h c (by omega)
    have hj := h j (by omega)
    simp only [dot]
    rw [ih, hj]
    by_cases e : j = b
    · subst e
      rw [if_neg (by omega), if_pos rfl, if_pos (by omega), Nat.mul_add]
      omega
    · rw [if_neg e, Nat.add_zero]
      by_cases e2 : b < j
      · rw [if_pos e2, if_pos (by omega)]; omega
      · rw [if_neg e2, if_neg (by omega)]; omega
theorem dot_le {k : Nat} {v : Nat → Nat} : ∀ j, (∀ c, c < j → v c ≤ 4) → dot (V.bit k) v j ≤ V.rooms k j
  | 0, _ => Nat.le_refl _
  | j + 1, h => by
    have ih := dot_le (k := k) j fun c hc => h c (by omega)
    have hj := h j (by omega)
    have hb : V.bit k j < 2 := Nat.mod_lt _ (by omega)
    simp only [dot, V.rooms]
    have : V.bit k j * v j ≤ V.bit k j * 4 := Nat.mul_le_mul_left _ hj
    omega
def cellsU (n m s k : Nat) : List Nat := (List.range k).map fun i => bitsAt 64 n m (s + i) 1
theorem cellsU_succ (n m s k : Nat) : cellsU n m s (k + 1) = bitsAt 64 n m s 1 :: cellsU n m (s + 1) k := by
  unfold cellsU
  rw [List.range_succ_eq_map, List.map_cons, List.map_map]
  congr 1
  refine List.map_congr_left fun i _ => ?_
  show bitsAt 64 n m (s + (i + 1)) 1 = _
  rw [show s + (i + 1) = s + 1 + i by omega]
theorem room_step {k h c N L R : Nat} (hc : c < 8) (hl : ld L c ≤ 3) (hi : V.inS k h = true → V.bit k c = 1) (ih : N + dot (V.bit k) (ld (Nat.add L (Nat.pow 16 c))) 8 ≤ R) : (N + if V.inS k h then 1 else 0) + dot (V.bit k) (ld L) 8 ≤ R := by
  rw [dot_add (v := ld L) (b := c) 8 (fun d hd => ld_add hc hd hl), if_pos hc] at ih
  cases e : V.inS k h
  · simp; omega
  · have := hi e; simp; omega
theorem room_law (n m : Nat) : ∀ (j L : Nat), j ≤ n → (∀ c, c < 8 → ld L c ≤ 4) → roomL n m j L = true → ∀ k, (cellsU n m (n - j) j).countP (V.inS k) + dot (V.bit k) (ld L) 8 ≤ V.rooms k 8
  | 0, L, _, hl, _, k => by
    have := dot_le (k := k) 8 hl
    simpa [cellsU] using this
  | j + 1, L, hj, hl, h, k => by
    obtain ⟨x, hx⟩ : ∃ x, x = bitsAt 64 n m (n - (j + 1)) 1 := ⟨_, rfl⟩
    have h : (Bool.rec (Bool.rec false (roomL n m j (Nat.add L (Nat.pow 16 (V.oB x)))) (Nat.ble (ld L (V.oB x)) 3)) (roomL n m j (Nat.add L (Nat.pow 16 (V.fB x)))) (Nat.ble (ld L (V.fB x)) 3) : Bool) = true := by
      rw [hx]
      have e : ∀ y, V.oB y = Nat.xor (Nat.mod y 8) (Nat.succ (Nat.mod (Nat.mod (Nat.div y 256) 32768) 7)) := fun y => by
        show y % 8 ^^^ (1 + y / 256 % 32768 % 7) = y % 8 ^^^ (y / 256 % 32768 % 7 + 1)
        rw [Nat.add_comm]
      rw [e]
      exact h
    rw [cellsU_succ, List.countP_cons, ← hx, show n - (j + 1) + 1 = n - j by omega]
    have hf : V.fB x < 8 := Nat.mod_lt _ (by omega)
    have ho := V.oB_lt x
    have hin : ∀ c, c < 8 → ld L c ≤ 3 → ∀ d, d < 8 → ld (Nat.add L (Nat.pow 16 c)) d ≤ 4 := fun c hc h3 d hd => by
      rw [ld_add hc hd h3]
      have := hl d hd
      split
      · next e => subst e; omega
      · omega
    cases e : Nat.ble (ld L (V.fB x)) 3
    · rw [e] at h
      cases e2 : Nat.ble (ld L (V.oB x)) 3
      · rw [e2] at h; cases h
      · rw [e2] at h
        have e2 := Nat.le_of_ble_eq_true e2
        exact room_step ho e2 (fun hi => by
          obtain ⟨_, h2⟩ := Bool.and_eq_true_iff.1 hi
          simpa using h2) (room_law n m j _ (by omega) (hin _ ho e2) h k)
    · rw [e] at h
      have e := Nat.le_of_ble_eq_true e
      exact room_step hf e (fun hi => by
        obtain ⟨h2, _⟩ := Bool.and_eq_true_iff.1 hi
        simpa using h2) (room_law n m j _ (by omega) (hin _ hf e) h k)
theorem srcU {ρ : Pl} {σ σ' : St} {w : World} {a v : AV} {X : Value} {f : Nat → Nat → RA} (hs : RS ρ σ w) (hx : Rv ρ a X) (h : pkSrc .u64 σ a f = .ok v σ') :
    ∃ k y ad c, f k y = .ok v σ' ∧ X = .slice ad k c ∧ k ≤ 9223372036854775807 ∧ ∀ i (h : i < (cellsU k y 0 k).length), ∃ b off, ad = some ⟨b, off, none⟩ ∧ w.cell? ⟨b, off + i, none⟩ = some (.int .u64 ((cellsU k y 0 k)[i] : Int)) := by
  unfold pkSrc at h
  rcases onSl_or h with ⟨b, o, l, c, w', kn, e1, h⟩ | h
  · obtain ⟨κ', tt, n, m, ek, h⟩ := onPk_some h RA.ne
    obtain ⟨c0, h'⟩ := boolRA_ok h
    obtain ⟨c0, c1⟩ := Bool.and_eq_true_iff.1 c0
    rw [← pkEq_ok c0] at ek
    have c1 : o + l ≤ n := Nat.le_of_ble_eq_true c1
    rw [e1] at hx
    obtain ⟨L, c', ad, eL, rfl, ha, g1, g2, g3, g4, g5⟩ := hx
    have hb := hs.blk b L eL
    rw [ek] at hb
    obtain ⟨_, arr, fr, e, k1, k2, k3, k4, k5⟩ := hb
    refine ⟨l, _, _, c', h', rfl, by unfold maxLen at g4; omega, fun i hi => ⟨L.r, ad, rfl, ?_⟩⟩
    have hi : i < l := by simpa [cellsU] using hi
    rw [ha.resolve_right (by omega)]
    have := k5 (o + i) (by omega)
    simp only [World.cell?, e, cellsU, List.getElem_map, List.getElem_range]
    have hb3 : bitsAt 64 l (bitsAt (pkw .u64) n m o l) i 1 = bitsAt 64 n m (o + i) 1 := bits_sub (w := 64) (by omega) c1
    rw [Nat.add_assoc, this, Nat.zero_add, hb3]
    rfl
  · obtain ⟨u, e1, h⟩ := onLit_some h RA.ne
    obtain ⟨hv, h⟩ := boolRA_ok h
    obtain ⟨c, rfl⟩ := vSl0_ok hv
    rw [e1] at hx
    exact ⟨0, 0, none, c, h, hx, by omega, fun i hi => absurd hi (by simp [cellsU])⟩
set_option maxRecDepth 20000 in
theorem w235 : CallOk Tryz.prog 235 roomP := prim_of (k := 1) (by kernel_rfl) fun ρ σ w T args v σ' hl hTA hs h => by
  obtain ⟨x, rfl⟩ := len1 hl
  obtain ⟨k, y, ad, c, h, rfl, hk, hc⟩ := srcU hs (TA0 hTA) h
  obtain ⟨hr, h⟩ := RAnat h
  injection h with h1 h2; subst h1 h2
  have hlen : (cellsU k y 0 k).length = k := by simp [cellsU]
  have hz : ∀ c, ld 0 c = 0 := fun c => by rw [ld_eq]; simp
  have := V.room_c w ad c (cellsU k y 0 k) (by omega) (fun z hz => by
    obtain ⟨i, _, rfl⟩ := List.mem_map.1 hz
    have := bitsAt_lt 64 k y (0 + i) 1; simpa using this) hc (fun j _ => by
    have := room_law k y k 0 (Nat.le_refl _) (fun c _ => by rw [hz]; omega) hr j
    rw [Nat.sub_self] at this
    omega)
  rw [hlen] at this
  refine Calls.mono this fun e w' ⟨he, hw⟩ => ?_
  subst hw
  exact ⟨_, he, ρ, rfl, hs, Step.refl _ _ _⟩
end Go.Proofs.YtaogloegiffioaaGreatDoor
namespace Go.Proofs.YtaogloegiffioaaGreatDoor
open Go.RowKit
def lst : AVs → List AV
  | .nil => []
  | .cons a l => a :: lst l
theorem len_lst : ∀ l : AVs, AVs.len l = (lst l).length
  | .nil => rfl
  | .cons _ l => by
    show Nat.succ (AVs.len l) = _
    rw [len_lst l]; rfl
theorem putL_spec : ∀ (l : AVs) (r : Row) (k : Nat), r.good → k ≤ r.cap → (r.putL k l).good ∧ k + (lst l).length ≤ (r.putL k l).cap ∧ (∀ j, j < k → ∀ u, r.get j = .ok u → (r.putL k l).get j = .ok u) ∧ ∀ i a, (lst l)[i]? = some a → (r.putL k l).get (k + i) = .ok a
  | .nil, r, k, hg, hk => ⟨hg, hk, fun _ _ _ h => h, fun i a h => by cases h⟩
  | .cons v l, r, k, hg, hk => by
    obtain ⟨g1, g2, g3, g4, g5⟩ := Row.put_good hg hk v
    obtain ⟨f1, f2, f3, f4⟩ := putL_spec l (r.put k v) (k + 1) g1 g2
    show ((r.put k v).putL (k + 1) l).good ∧ k + ((lst l).length + 1) ≤ ((r.put k v).putL (k + 1) l).cap ∧ (∀ j, j < k → ∀ u, r.get j = .ok u → ((r.put k v).putL (k + 1) l).get j = .ok u) ∧ ∀ i a, (v :: lst l)[i]? = some a → ((r.put k v).putL (k + 1) l).get (k + i) = .ok a
    refine ⟨f1, by omega, fun j hj u hu => f3 j (by omega) u (g5 j (by omega) (by omega) u hu), fun i a hi => ?_⟩
    rcases i with _ | i
    · injection hi with hi; subst hi
      exact f3 k (by omega) v g4
    · have := f4 i a hi
      rwa [show k + 1 + i = k + (i + 1) by omega] at this
theorem own_ok {ρ : Pl} {σ : St} {w w' : World} (hs : RS ρ σ w) (hlast : notLast σ.nx = true) (hB : Below w.heap.size w w') {base t size n : Nat} {l : AVs} {v' : Value} {xs : List Value} (hown : w'.ownsRow base t size v' n xs) (hb : w.heap.size ≤ base) (hn : n ≠ 0)
    (hl : (lst l).length = n * size) (hx : ∀ (i : Nat) (x : Value), xs[i]? = some x → ∃ a, (lst l)[i]? = some a ∧ (∀ ρ, Rv ρ a x) ∧ x.oneCell' = true) :
    ∃ ρ', Rv ρ' (slW n size σ.nx) v' ∧ RS ρ' (σ.new (.cells t (AVs.len l) (Row.putL .e 0 l))) w' ∧ Step σ ρ w (σ.new (.cells t (AVs.len l) (Row.putL .e 0 l))) ρ' w' := by
  obtain ⟨hxl, ⟨_, h0⟩ | ⟨g, cap, cur, hv, hge, hcur, hcap, hmx, hsz, htk⟩⟩ := hown
  · exact absurd h0 hn
  subst hv
  obtain ⟨f1, f2, _, f4⟩ := putL_spec l .e 0 ⟨0, Row.ok_e 0⟩ (Nat.zero_le _)
  have hle : n * size ≤ cap * size := Nat.mul_le_mul_right _ hcap
  have hRB : RB (pext ρ σ.nx ⟨g, cur.size, g⟩) w' ⟨g, cur.size, g⟩ (.cells t (AVs.len l) (Row.putL .e 0 l)) := by
    refine ⟨rfl, cur, (0, 0), hcur, rfl, by show 0 + AVs.len l ≤ _; rw [len_lst]; omega, .inl rfl, f1, by rw [len_lst]; omega, fun i hi => ?_⟩
    rw [len_lst] at hi
    have hi2 : i < xs.length := by omega
    obtain ⟨a, e1, e2, e3⟩ := hx i xs[i] (List.getElem?_eq_getElem hi2)
    refine ⟨xs[i], ?_, (Rw_get _ _ _).2 ⟨a, ?_, e2 _, e3⟩⟩
    · have : (cur.toList.take (n * size))[i]? = some xs[i] := by rw [htk]; exact List.getElem?_eq_getElem hi2
      rw [List.getElem?_take, if_pos (by omega)] at this
      show cur[0 + i]? = _
      rw [Nat.zero_add]; simpa using this
    · have := f4 i a e1
      rwa [Nat.zero_add] at this
  obtain ⟨n1, n2⟩ := new_ok hs hlast _ ⟨g, cur.size, g⟩ hB.os hB.tape hB.output hB.size hB.block (by show _ ≤ g; omega) (by show _ ≤ g; omega) hRB
  refine ⟨_, ⟨_, cap, 0, ext_self _ _ _, rfl, .inl rfl, Nat.le_refl _, hcap, fun h => (by cases h), hmx, ?_⟩, n1, n2⟩
  show 0 + 0 + cap * size ≤ cur.size
  omega
def SP.ps : SP → List (Nat × Nat)
  | .nil => []
  | .cons a n r => (a, n) :: r.ps
theorem SP.lst_avs : ∀ l : SP, lst l.avs = (l.ps.map fun p => [AV.i64 p.1, AV.i64 p.2]).flatten
  | .nil => rfl
  | .cons a n r => by
    show AV.i64 a :: AV.i64 n :: lst r.avs = _
    rw [SP.lst_avs r]; rfl
def freeOf (n m : Nat) : List Bool := (List.range n).map fun i => bitOf n m i
theorem spans_end (n m a : Nat) : ∀ (k i : Nat) (o : Option Nat), i + k = n → (o = none ∧ (V.st a (freeOf n m) i).2 = 0 ∨ ∃ s, o = some s ∧ s < i ∧ (V.st a (freeOf n m) i).2 = i - s) →
    (V.st a (freeOf n m) i).1 ++ (spansF n m a k o).ps.map (fun p => ((p.1 : Int), (p.2 : Int))) = V.spans a (freeOf n m) ∧ ∀ p ∈ (spansF n m a k o).ps, p.1 ≤ a + n ∧ p.2 ≤ n
  | 0, i, o, hi, h => by
    have e : i = n := by omega
    subst e
    have hlen : (freeOf i m).length = i := by simp [freeOf]
    unfold V.spans V.spansK
    rw [hlen]
    rcases h with ⟨rfl, h⟩ | ⟨s, rfl, hs, h⟩
    · rw [h]
      exact ⟨rfl, fun p hp => by cases hp⟩
    · rw [h, if_neg (by omega)]
      show _ ++ [(((a + s : Nat) : Int), ((i - s : Nat) : Int))] = _ ∧ ∀ p ∈ [(a + s, i - s)], p.1 ≤ a + i ∧ p.2 ≤ i
      refine ⟨?_, fun p hp => ?_⟩
      · congr 3; omega
      · rw [List.mem_singleton] at hp; subst hp
        exact ⟨by show a + s ≤ _; omega, by show i - s ≤ i; omega⟩
  | k + 1, i, o, hi, h => by
    have hget : (freeOf n m)[i]? = some (bitOf n m i) := by
      unfold freeOf
      rw [List.getElem?_map, List.getElem?_range (by omega)]; rfl
    have hni : Nat.sub n (Nat.succ k) = i := by show n - (k + 1) = i; omega
    have ih := fun o => spans_end n m a k (i + 1) o (by omega)
    have hF : ∀ o, spansF n m a (k + 1) o = Bool.rec (Option.rec (spansF n m a k none) (fun s => .cons (Nat.add a s) (Nat.sub i s) (spansF n m a k none)) o) (Option.rec (spansF n m a k (some i)) (fun _ => spansF n m a k o) o) (bitOf n m i) := fun o => by
      conv => rhs; rw [← hni]
      rfl
    rw [hF]
    have hst : V.st a (freeOf n m) (i + 1) = if bitOf n m i = true then ((V.st a (freeOf n m) i).1, (V.st a (freeOf n m) i).2 + 1) else if (V.st a (freeOf n m) i).2 = 0 then ((V.st a (freeOf n m) i).1, 0) else ((V.st a (freeOf n m) i).1 ++ [((a : Int) + (i : Int) - ((V.st a (freeOf n m) i).2 : Int), ((V.st a (freeOf n m) i).2 : Int))], 0) := by
      rw [V.st, hget]
      simp
    cases e : bitOf n m i
    · rw [e] at hst
      rcases h with ⟨rfl, h⟩ | ⟨s, rfl, hs, h⟩
      · rw [if_neg (by simp), if_pos h] at hst
        have := ih none (.inl ⟨rfl, by rw [hst]⟩)
        rw [hst] at this
        exact this
      · rw [if_neg (by simp), if_neg (by omega)] at hst
        obtain ⟨q1, q2⟩ := ih none (.inl ⟨rfl, by rw [hst]⟩)
        rw [hst] at q1
        show (V.st a (freeOf n m) i).1 ++ (((a + s : Nat) : Int), ((i - s : Nat) : Int)) :: (spansF n m a k none).ps.map _ = _ ∧ ∀ p ∈ (a + s, i - s) :: (spansF n m a k none).ps, _
        refine ⟨?_, fun p hp => ?_⟩
        · rw [← q1, List.append_assoc]
          congr 2
          rw [h]
          congr 1; omega
        · rcases List.mem_cons.1 hp with rfl | hp
          · exact ⟨by show a + s ≤ _; omega, by show i - s ≤ n; omega⟩
          · exact q2 p hp
    · rw [e, if_pos rfl] at hst
      rcases h with ⟨rfl, h⟩ | ⟨s, rfl, hs, h⟩
      · have := ih (some i) (.inr ⟨i, rfl, by omega, by rw [hst, h]; omega⟩)
        rw [hst] at this
        exact this
      · have := ih (some s) (.inr ⟨s, rfl, by omega, by rw [hst, h]; show i - s + 1 = i + 1 - s; omega⟩)
        rw [hst] at this
        exact this
theorem spans_law (n m a : Nat) : V.spans a (freeOf n m) = (spansF n m a n none).ps.map (fun p => ((p.1 : Int), (p.2 : Int))) ∧ ∀ p ∈ (spansF n m a n none).ps, p.1 ≤ a + n ∧ p.2 ≤ n := by
  obtain ⟨h1, h2⟩ := spans_end n m a n 0 none (by omega) (.inl ⟨rfl, rfl⟩)
  exact ⟨h1.symm.trans (by simp [V.st]), h2⟩
theorem flat_get (ps : List (Nat × Nat)) (h : ∀ p ∈ ps, p.1 ≤ 9223372036854775807 ∧ p.2 ≤ 9223372036854775807) : ∀ (i : Nat) (x : Value), (V.spCells (ps.map fun p => ((p.1 : Int), (p.2 : Int))))[i]? = some x → ∃ a, ((ps.map fun p => [AV.i64 p.1, AV.i64 p.2]).flatten)[i]? = some a ∧ (∀ ρ, Rv ρ a x) ∧ x.oneCell' = true := by
  induction ps with
  | nil => intro i x hx; cases hx
  | cons p ps ih =>
    intro i x hx
    obtain ⟨h1, h2⟩ := h p (by simp)
    have hx : (Value.int .i64 (p.1 : Int) :: Value.int .i64 (p.2 : Int) :: V.spCells (ps.map fun p => ((p.1 : Int), (p.2 : Int))))[i]? = some x := hx
    rcases i with _ | _ | i
    · injection hx with hx; subst hx
      exact ⟨.i64 p.1, rfl, fun ρ => ⟨rfl, h1⟩, rfl⟩
    · injection hx with hx; subst hx
      exact ⟨.i64 p.2, rfl, fun ρ => ⟨rfl, h2⟩, rfl⟩
    · exact ih (fun q hq => h q (by simp [hq])) i x hx
set_option maxRecDepth 20000 in
theorem w87 : CallOk Tryz.prog 87 extSpans := prim_of (k := 1) (by kernel_rfl) fun ρ σ w T args v σ' hl hTA hs h => by
  obtain ⟨x, rfl⟩ := len1 hl
  obtain ⟨b, o, e, h⟩ := onP_some h RA.ne
  have hx := TA0 hTA
  rw [e] at hx
  obtain ⟨L, eL, rfl⟩ := hx
  have hblk := hs.blk b L eL
  obtain ⟨x0, e0, h⟩ := RAofN_ok h
  obtain ⟨at_, e1, h⟩ := onI64_some h RA.ne
  obtain ⟨y0, e2, h⟩ := RAofN_ok h
  obtain ⟨c0, hc0, hv0⟩ := get_ok hblk e0
  obtain ⟨c1, hc1, hv1⟩ := get_ok hblk e2
  rw [e1] at hv0
  obtain ⟨rfl, hat⟩ := hv0
  obtain ⟨b2, o2, n, cc, ww, kn, e3, h⟩ := onSl_some h RA.ne
  rw [e3] at hv1
  obtain ⟨L2, c', a, eL2, rfl, ha, hlc, hcc, _, hmx, hin⟩ := hv1
  obtain ⟨κ, t, N, m2, ek2, h⟩ := onPk_some h RA.ne
  obtain ⟨hchk, h2⟩ := RAnat h
  obtain ⟨q1, q2⟩ := Bool.and_eq_true_iff.1 hchk
  obtain ⟨q3, q4⟩ := Bool.and_eq_true_iff.1 q1
  obtain ⟨q5, q6⟩ := Bool.and_eq_true_iff.1 q2
  rw [← pkEq_ok q3] at ek2
  have q4 : o2 + n ≤ N := Nat.le_of_ble_eq_true q4
  have q5 : n ≤ 2048 := Nat.le_of_ble_eq_true q5
  have q6 : at_ ≤ 1000000 := Nat.le_of_ble_eq_true q6
  have hb2 := hs.blk b2 L2 eL2
  rw [ek2] at hb2
  obtain ⟨hq2, arr, fr, hh, hsz, hN, hfr, hm2, hcell⟩ := hb2
  obtain ⟨m, hm⟩ : ∃ m, bitsAt 1 N m2 o2 n = m := ⟨_, rfl⟩
  have hlen : (freeOf n m).length = n := by simp [freeOf]
  have hlt : ∀ {r : Nat} {ob : Obj}, w.heap[r]? = some ob → r < w.heap.size := fun {r ob} h => by
    rcases Nat.lt_or_ge r w.heap.size with h1 | h1
    · exact h1
    · rw [Array.getElem?_eq_none h1] at h; cases h
  have hR : V.RoomR w L.r (L.s + o) (.slice (some ⟨L2.r, a, none⟩) (freeOf n m).length c') (at_ : Int) (freeOf n m) := by
    refine ⟨hc0, ?_, ?_, ?_, by omega, by omega, by omega⟩
    · rw [hlen]; exact hc1
    · unfold World.cell? at hc0
      cases hg : w.heap[L.r]? with
      | none => rw [hg] at hc0; cases hc0
      | some ob => exact hlt hg
    · rw [hlen]
      unfold V.Sb V.Sv
      rw [hlen]
      refine ⟨by simp [V.tv, hlen], by omega, _, c', rfl, by omega, hmx, (by simp), .inr ⟨L2.r, a, rfl, hlt hh, fun i hi => ?_⟩⟩
      have hi : i < n := by simpa [V.tv, hlen] using hi
      rw [ha.resolve_right (by omega)]
      have := hcell (o2 + i) (by omega)
      simp only [World.cell?, hh, V.tv, freeOf, List.getElem_map, List.getElem_range]
      have hb3 : bitsAt 1 n (bitsAt (pkw .bool) N m2 o2 n) i 1 = bitsAt 1 N m2 (o2 + i) 1 := bits_sub (w := 1) (by omega) q4
      have hb3 : bitsAt 1 n m i 1 = bitsAt 1 N m2 (o2 + i) 1 := by rw [← hm]; exact hb3
      unfold bitOf
      rw [Nat.add_assoc, this, hb3]
      rfl
  rw [hm] at h2
  have h2 : (Bool.rec (alR σ (.cells 163 (AVs.len (spansF n m at_ n none).avs) (Row.putL .e 0 (spansF n m at_ n none).avs)) (slW (Nat.div (AVs.len (spansF n m at_ n none).avs) 2) 2)) (.ok (.lit (.slice none 0 0)) σ) (Nat.beq (AVs.len (spansF n m at_ n none).avs) 0) : RA) = .ok v σ' := h2
  obtain ⟨l1, l2⟩ := spans_law n m at_
  have hC := V.spans_c w L.r (L.s + o) _ _ _ hR
  refine Calls.mono hC fun e w' ⟨⟨v', he, hown, hnil⟩, hB⟩ => ?_
  have hpl : ∀ ps : List (Nat × Nat), ((ps.map fun p => [AV.i64 p.1, AV.i64 p.2]).flatten).length = ps.length * 2 := fun ps => by
    induction ps with
    | nil => rfl
    | cons p ps ih => simp only [List.map_cons, List.flatten_cons, List.length_append, ih, List.length_cons, List.length_nil]; omega
  have hlA : AVs.len (spansF n m at_ n none).avs = (V.spans (at_ : Int) (freeOf n m)).length * 2 := by
    rw [len_lst, SP.lst_avs, hpl, l1, List.length_map]
  cases ez : Nat.beq (AVs.len (spansF n m at_ n none).avs) 0
  · rw [ez] at h2
    obtain ⟨hlast, rfl, rfl⟩ := alR_ok h2
    have hne : AVs.len (spansF n m at_ n none).avs ≠ 0 := fun h => by rw [h] at ez; cases ez
    obtain ⟨ρ', r1, r2, r3⟩ := own_ok (l := (spansF n m at_ n none).avs) hs hlast hB hown (Nat.le_refl _) (by omega) (by rw [← len_lst, hlA]) (fun i x hi => by
      rw [l1] at hi
      rw [SP.lst_avs]
      exact flat_get _ (fun p hp => by have := l2 p hp; omega) i x hi)
    refine ⟨_, he, ρ', ?_, r2, r3⟩
    rw [show Nat.div (AVs.len (spansF n m at_ n none).avs) 2 = (V.spans (at_ : Int) (freeOf n m)).length by rw [hlA]; exact Nat.mul_div_cancel _ (by omega)]
    exact r1
  · rw [ez] at h2
    injection h2 with h3 h4; subst h3 h4
    have hz : AVs.len (spansF n m at_ n none).avs = 0 := Nat.eq_of_beq_eq_true ez
    have hv := hnil (List.eq_nil_of_length_eq_zero (by omega))
    subst hv
    obtain ⟨n1, n2⟩ := same_ok hs hB.os hB.tape hB.output hB.size hB.block
    exact ⟨_, he, ρ, rfl, n1, n2⟩
end Go.Proofs.YtaogloegiffioaaGreatDoor
namespace Go.Proofs.YtaogloegiffioaaGreatDoor
open Go.RowKit
theorem clone_next : (Tryz.prog.funcs[255]?).map (fun fn => (Extern.findNext fn).isNone) = some true := by kernel_rfl
theorem clone_find : (Tryz.prog.funcs[255]?).bind (fun fn => Extern.find fn) = some Extern.MapsClone.clone := by kernel_rfl
theorem clone_fn : (Tryz.prog.funcs[255]?).map (fun fn => (fn.body.isNone, fn.name == "runtime.NumGoroutine")) = some (true, false) := by kernel_rfl
theorem clone_run (t : TypeId) (r : Nat) (arr : Array MapEntry) (clock : Nat) (w : World) (h : w.heap[r]? = some (.map arr clock)) :
    (callFunc 255 #[.iface t (.map (some r))]).run Tryz.prog w = .ok (.value (.iface t (.map (some w.heap.size)))) (w.alloc (.map arr clock)) := by
  cases hf : Tryz.prog.funcs[255]? with
  | none => have := clone_fn; rw [hf] at this; cases this
  | some fn =>
    have c1 := clone_fn
    have c2 := clone_find
    have c3 := clone_next
    rw [hf] at c1 c2 c3
    have c1 : (fn.body.isNone, fn.name == "runtime.NumGoroutine") = (true, false) := Option.some.inj c1
    have c1' : (fn.name == "runtime.NumGoroutine") = false := congrArg Prod.snd c1
    have c1 : fn.body.isNone = true := congrArg Prod.fst c1
    have c3 : (Extern.findNext fn).isNone = true := Option.some.inj c3
    have c2 : Extern.find fn = some Extern.MapsClone.clone := c2
    have c3 : Extern.findNext fn = none := by simpa using c3
    have hr : (Extern.MapsClone.clone #[.iface t (.map (some r))]).run Tryz.prog w = .ok (.iface t (.map (some w.heap.size))) (w.alloc (.map arr clock)) := by
      have e : Extern.MapsClone.clone #[.iface t (.map (some r))] = (do
          let .map entries clock ← getObj r | stuck "maps.clone: a map expected"
          pure (.iface t (.map (some (← newObj (.map entries clock)))))) := rfl
      rw [e]
      have e1 : (getObj r).run Tryz.prog w = .ok (.map arr clock) w := getMap_run h
      have e2 : (newObj (.map arr clock)).run Tryz.prog w = .ok w.heap.size (w.alloc (.map arr clock)) := rfl
      rw [Sem.run_bind, e1]
      show ((do let x ← newObj (.map arr clock); pure (Value.iface t (.map (some x))) : Sem Value)).run Tryz.prog w = _
      rw [Sem.run_bind, e2]
      rfl
    have c1'' : fn.body = none := by simpa using c1
    have c4 : ¬ fn.name = "runtime.NumGoroutine" := by simpa using c1'
    simp [callFunc, hf, c1'', c4, c2, c3, hr]
theorem clone_params : (Tryz.prog.funcs[255]?).map (fun fn => fn.params.size) = some 1 := by kernel_rfl
set_option maxRecDepth 20000 in
theorem w255 : CallOk Tryz.prog 255 cloneP := by
  intro ρ σ w T args v σ' hz hTA hs he o a K Q hK
  have hsz : args.size = 1 := by
    cases hf : Tryz.prog.funcs[255]? with
    | none => have := clone_fn; rw [hf] at this; cases this
    | some fn =>
      have e := clone_params
      rw [hf] at e
      have e : fn.params.size = 1 := Option.some.inj e
      exact (hz fn hf).trans e
  obtain ⟨t, m, e1, h⟩ := onIface_some he RA.ne
  obtain ⟨x, hx⟩ : ∃ x, args.toList = [x] := len1 (by simpa using hsz)
  have hargs : args = #[x] := by
    apply Array.ext'; simpa using hx
  subst hargs
  have hx := TA0 (l := []) hTA
  rw [e1] at hx
  obtain ⟨u, hu, rfl⟩ := hx
  unfold mapOf at h
  obtain ⟨b, e2, h⟩ := onMp_some h RA.ne
  rw [e2] at hu
  obtain ⟨L, eL, rfl⟩ := hu
  obtain ⟨es, c, ek, h⟩ := onMap_some h RA.ne
  obtain ⟨hlast, rfl, rfl⟩ := alR_ok h
  have hb := hs.blk b L eL
  rw [ek] at hb
  obtain ⟨hq, arr, harr, hres⟩ := hb
  rw [clone_run t L.r arr c w harr]
  obtain ⟨n1, n2⟩ := new_ok hs hlast (.map es c) ⟨w.heap.size, 0, w.heap.size⟩ (w' := w.alloc (.map arr c)) rfl rfl rfl (by show _ ≤ (w.heap.push _).size; simp) (fun r h => alloc_old w _ r h) (Nat.le_refl _) (Nat.le_refl _) ⟨rfl, arr, heap_alloc_new w _, Res.mono (ext_sub hs.fresh) _ _ hres⟩
  exact hK _ _ _ ⟨_, ⟨_, ext_self _ _ _, rfl⟩, rfl⟩ n1 n2
end Go.Proofs.YtaogloegiffioaaGreatDoor
namespace Go.Proofs.YtaogloegiffioaaGreatDoor
open Go.RowKit Go.Sort
def bsOf (p : Nat × Nat) : List UInt8 := (strOf p.1 p.2).toList
def avS : List (Nat × Nat) → AVs
  | [] => .nil
  | p :: l => .cons (.s p.1 p.2) (avS l)
noncomputable def ins (x : Nat × Nat) : List (Nat × Nat) → List (Nat × Nat)
  | [] => [x]
  | y :: r => if lsS y.1 y.2 x.1 x.2 then y :: ins x r else x :: y :: r
theorem insS_eq (x : Nat × Nat) : ∀ l, insS (.s x.1 x.2) (avS l) = avS (ins x l)
  | [] => rfl
  | y :: r => by
    show (Bool.rec (.cons (.s x.1 x.2) (.cons (.s y.1 y.2) (avS r))) (.cons (.s y.1 y.2) (insS (.s x.1 x.2) (avS r))) (lsS y.1 y.2 x.1 x.2) : AVs) = _
    rw [insS_eq x r]
    show _ = avS (if lsS y.1 y.2 x.1 x.2 then y :: ins x r else x :: y :: r)
    cases lsS y.1 y.2 x.1 x.2 <;> rfl
theorem ins_perm (x : Nat × Nat) : ∀ l, (ins x l).Perm (x :: l)
  | [] => .refl _
  | y :: r => by
    unfold ins
    split
    · exact ((ins_perm x r).cons y).trans (.swap _ _ _)
    · exact .refl _
theorem ups_ok {c : Nat} : ∀ (e : Ents) (lo : Nat), e.ups c lo = true → ∃ kl : List (Nat × Nat), (∃ l, e.keys = avS l ∧ l.Perm kl) ∧ ∀ (ρ : Pl) (es : List MapEntry), Res ρ e es → es.length = kl.length ∧ (∀ (i : Nat) (m : MapEntry), es[i]? = some m → ∃ p, kl[i]? = some p ∧ m.key = .string (strOf p.1 p.2) ∧ p.2 < 2 ^ (8 * p.1) ∧ p.1 ≤ 9223372036854775807) ∧ (∀ m ∈ es, m.born < c ∧ lo ≤ m.born) ∧ (es.map (·.born)).Nodup
  | .nil, lo, _ => ⟨[], ⟨[], rfl, .refl _⟩, fun ρ es h => by
    have h : es = [] := h
    subst h; simp⟩
  | .cons k v n l, lo, h => by
    have h : onS k (fun _ _ => Bool.rec false (l.ups c (n + 1)) (Nat.ble lo n && Nat.ble (n + 1) c)) false = true := h
    obtain ⟨a, b, rfl, h⟩ := onS_some h (by decide)
    have hc : (Nat.ble lo n && Nat.ble (n + 1) c) = true ∧ l.ups c (n + 1) = true := by
      cases e : (Nat.ble lo n && Nat.ble (n + 1) c)
      · rw [e] at h; cases h
      · rw [e] at h; exact ⟨rfl, h⟩
    obtain ⟨h1, h2⟩ := hc
    obtain ⟨h3, h4⟩ := Bool.and_eq_true_iff.1 h1
    have h3 : lo ≤ n := Nat.le_of_ble_eq_true h3
    have h4 : n + 1 ≤ c := Nat.le_of_ble_eq_true h4
    obtain ⟨kl, ⟨l', e1, e2⟩, ih⟩ := ups_ok l (n + 1) h2
    refine ⟨(a, b) :: kl, ⟨ins (a, b) l', ?_, (ins_perm _ _).trans (e2.cons _)⟩, fun ρ es hr => ?_⟩
    · show insS (.s a b) l.keys = _
      rw [e1]; exact insS_eq (a, b) l'
    · obtain ⟨m, r, rfl, hk, hv, hb, hr⟩ := hr
      obtain ⟨i1, i2, i3, i4⟩ := ih ρ r hr
      refine ⟨by simp [i1], fun i m' hm => ?_, fun m' hm => ?_, ?_⟩
      · rcases i with _ | i
        · injection hm with hm; subst hm
          exact ⟨(a, b), rfl, hk⟩
        · exact i2 i m' hm
      · rcases List.mem_cons.1 hm with rfl | hm
        · omega
        · have := i3 m' hm; omega
      · rw [List.map_cons, List.nodup_cons]
        refine ⟨fun hm => ?_, i4⟩
        obtain ⟨m', hm', e⟩ := List.mem_map.1 hm
        have := i3 m' hm'; omega
theorem bs_lt {p q : Nat × Nat} (hp : p.2 < 2 ^ (8 * p.1)) (hq : q.2 < 2 ^ (8 * q.1)) : decide (bsOf p < bsOf q) = lsS p.1 p.2 q.1 q.2 := by
  rw [← lsS_eq hp hq, bytesLess_eq]; rfl
theorem upS_ok : ∀ (l : List (Nat × Nat)) (a : Nat × Nat), a.2 < 2 ^ (8 * a.1) → (∀ p ∈ l, p.2 < 2 ^ (8 * p.1)) → upS (avS l) a.1 a.2 = true → (∀ p ∈ l, bsOf a < bsOf p) ∧ l.Pairwise (fun p q => bsOf p < bsOf q)
  | [], a, _, _, _ => ⟨(fun p hp => by cases hp), .nil⟩
  | p :: l, a, ha, hl, h => by
    have h : (Bool.rec false (upS (avS l) p.1 p.2) (lsS a.1 a.2 p.1 p.2) : Bool) = true := h
    have hp := hl p (by simp)
    cases e : lsS a.1 a.2 p.1 p.2
    · rw [e] at h; cases h
    · rw [e] at h
      obtain ⟨h1, h2⟩ := upS_ok l p hp (fun q hq => hl q (by simp [hq])) h
      have hlt : bsOf a < bsOf p := by rw [← bs_lt ha hp] at e; simpa using e
      refine ⟨fun q hq => ?_, .cons h1 h2⟩
      rcases List.mem_cons.1 hq with rfl | hq
      · exact hlt
      · exact List.lt_trans hlt (h1 q hq)
theorem upS0_ok : ∀ (l : List (Nat × Nat)), (∀ p ∈ l, p.2 < 2 ^ (8 * p.1)) → upS0 (avS l) = true → l.Pairwise (fun p q => bsOf p < bsOf q)
  | [], _, _ => .nil
  | p :: l, hl, h => by
    have h : upS (avS l) p.1 p.2 = true := h
    obtain ⟨h1, h2⟩ := upS_ok l p (hl p (by simp)) (fun q hq => hl q (by simp [hq])) h
    exact .cons h1 h2
theorem lst_avS : ∀ l, lst (avS l) = l.map fun p => AV.s p.1 p.2
  | [] => rfl
  | p :: l => by
    show AV.s p.1 p.2 :: lst (avS l) = _
    rw [lst_avS l]; rfl
theorem sort_is {l : List (Nat × Nat)} {ss : List (List UInt8)} (h : l.Pairwise (fun p q => bsOf p < bsOf q)) (hp : ss.Perm (l.map bsOf)) : (ss.mergeSort fun x y => decide (x ≤ y)) = l.map bsOf := by
  have tr : ∀ a b c : List UInt8, decide (a ≤ b) = true → decide (b ≤ c) = true → decide (a ≤ c) = true := fun a b c h1 h2 => by simp only [decide_eq_true_eq] at *; exact List.le_trans h1 h2
  have tot : ∀ a b : List UInt8, (decide (a ≤ b) || decide (b ≤ a)) = true := fun a b => by simp only [Bool.or_eq_true, decide_eq_true_eq]; exact List.le_total a b
  refine List.Perm.eq_of_pairwise (le := fun a b => decide (a ≤ b) = true) (fun a b _ _ h1 h2 => ?_) (List.pairwise_mergeSort tr tot ss) ?_ ((List.mergeSort_perm ss _).trans hp)
  · simp only [decide_eq_true_eq] at h1 h2
    exact List.le_antisymm h1 h2
  · rw [List.pairwise_map]
    exact h.imp fun hlt => by simpa using List.le_of_lt hlt
end Go.Proofs.YtaogloegiffioaaGreatDoor
namespace Go.Proofs.YtaogloegiffioaaGreatDoor
open Go.RowKit Go.Maps Go.Sort Go.Shelf
theorem sorts48 (m : Nat) : AnyZ.SortsIn Tryz.prog Tryz.sorted48_ren Fence.wide m :=
  ⟨fun blk off cap ss W hH hblk hsz => callsIn_wide.2 (AnyM.slices_Sort_string Tryz.sort83 blk off cap ss W hH hblk hsz),
   fun p cap W => callsIn_wide.2 (AnyM.slices_Sort_string_none Tryz.sort83 p cap W)⟩
def SortRes (S : List (List UInt8) → Prop) (w : World) (e : Ending) (w' : World) : Prop := ∃ (v : Value) (ss : List (List UInt8)), e = .returned v ∧ S ss ∧
  w'.ownsRow w.heap.size 9 1 v ss.length ((ss.mergeSort (fun x y => decide (x ≤ y))).map encStr) ∧ (v = .slice none 0 0 ↔ ss = []) ∧ Below w.heap.size w w'
set_option maxRecDepth 20000 in
set_option maxHeartbeats 1000000 in
theorem sorted_c {H : Type} {f : Nat} (hf : f = 86 ∨ f = 331) (p b nn : Nat) (D0 : DataW H) (R : Value → Option (DataW H × List MemPlace)) (w : World) (hp : p < w.heap.size) (hc : w.cell? ⟨p, 0, none⟩ = some (.map (some b))) (hown : w.ownsMap Tryz.prog 9 R b nn D0) (hmax : Maps.size D0 ≤ maxLen) (hbytes : Maps.size D0 * 16 ≤ 140737488355328) :
    Calls Tryz.prog 48 #[.func (.func f) #[] #[.pointer (some ⟨p, 0, none⟩)]] w (SortRes (fun ss => ss.Perm (strKeys D0)) w) := by
  have hseq : SeqGives Fence.wide 2 Tryz.prog f #[.pointer (some ⟨p, 0, none⟩)] encStr (fun ss => ss.Perm (strKeys D0)) (Maps.size D0) w := by
    rcases hf with rfl | rfl
    · exact AnyZ.keys_gives (ρ := Tryz.keys49_ren) { Tryz.keys49 with } Fence.wide _ trivial rfl (by omega) p b nn D0 _ hp hc hown
    · exact AnyZ.keys_gives (ρ := Tryz.keys286_ren) { Tryz.keys286 with } Fence.wide _ trivial rfl (by omega) p b nn D0 _ hp hc hown
  have he : ∀ args w, (callFunc f args).run Tryz.prog w = .ok (.enter f args) w := by
    rcases hf with rfl | rfl
    · exact enters_of Tryz.func86 (by kernel_rfl) rfl
    · exact enters_of Tryz.func331 (by kernel_rfl) rfl
  exact callsIn_wide.1 (AnyZ.sorted_in Tryz.sorted48 Fence.wide 5 trivial trivial trivial trivial rfl (by omega) (sorts48 _) (enters_of Tryz.func83 (by kernel_rfl) rfl) f #[.pointer (some ⟨p, 0, none⟩)] trivial he _ _ hmax hbytes _ hseq)
set_option maxRecDepth 20000 in
set_option maxHeartbeats 1000000 in
theorem sorted_nil_c {f : Nat} (hf : f = 86 ∨ f = 331) (p : Nat) (w : World) (hp : p < w.heap.size) (hc : w.cell? ⟨p, 0, none⟩ = some (.map none)) :
    Calls Tryz.prog 48 #[.func (.func f) #[] #[.pointer (some ⟨p, 0, none⟩)]] w (SortRes (fun ss => ss = []) w) := by
  have hseq : SeqGives Fence.wide 2 Tryz.prog f #[.pointer (some ⟨p, 0, none⟩)] encStr (fun ss : List (List UInt8) => ss = []) 0 w := by
    rcases hf with rfl | rfl
    · exact AnyZ.keys_gives_nil (ρ := Tryz.keys49_ren) { Tryz.keys49 with } Fence.wide _ trivial rfl p _ hp hc
    · exact AnyZ.keys_gives_nil (ρ := Tryz.keys286_ren) { Tryz.keys286 with } Fence.wide _ trivial rfl p _ hp hc
  have he : ∀ args w, (callFunc f args).run Tryz.prog w = .ok (.enter f args) w := by
    rcases hf with rfl | rfl
    · exact enters_of Tryz.func86 (by kernel_rfl) rfl
    · exact enters_of Tryz.func331 (by kernel_rfl) rfl
  exact callsIn_wide.1 (AnyZ.sorted_in Tryz.sorted48 Fence.wide 5 trivial trivial trivial trivial rfl (by omega) (sorts48 _) (enters_of Tryz.func83 (by kernel_rfl) rfl) f #[.pointer (some ⟨p, 0, none⟩)] trivial he _ 0 (Nat.zero_le _) (by omega) _ hseq)
end Go.Proofs.YtaogloegiffioaaGreatDoor
namespace Go.Proofs.YtaogloegiffioaaGreatDoor
open Go.RowKit Go.Maps
abbrev Rn : Value → Option (DataW Unit × List MemPlace) := fun _ => some (.nil, [])
theorem und9 : Tryz.prog.underlying 9 = some .string := by kernel_rfl
theorem bs_data (p : Nat × Nat) : (strOf p.1 p.2).data.toList = bsOf p := (ByteArray.toList_eq _).symm
theorem strOf_len (p : Nat × Nat) : (strOf p.1 p.2).size = p.1 := by
  show (strOf p.1 p.2).data.size = _
  simp [strOf]
theorem enc_bs (p : Nat × Nat) : encStr (bsOf p) = .string (strOf p.1 p.2) := by
  rw [← bs_data]
theorem rg_key {m : MapEntry} {p : Nat × Nat} (hk : m.key = .string (strOf p.1 p.2)) (hl : p.1 ≤ 9223372036854775807) : Go.WideElems.rd Tryz.prog 9 Rn m = some (.string (bsOf p), .nil) := by
  have hs : (strOf p.1 p.2).size ≤ maxLen := by rw [strOf_len, maxLen_eq]; exact hl
  have h1 : keyOf Tryz.prog 9 m.key = some (.string (bsOf p)) := by rw [hk, Go.WideMaps.keyOf_string_mk und9 hs, bs_data]
  unfold Go.WideElems.rd
  rw [h1]; rfl
theorem map_owns {ρ : Pl} {w : World} {L : Loc} {es : Ents} {c : Nat} (hb : RB ρ w L (.map es c)) (h1 : es.ups c 0 = true) (h2 : upS0 es.keys = true) (h3 : AVs.len es.keys ≤ 4096) :
    ∃ (l : List (Nat × Nat)) (D0 : DataW Unit) (nn : Nat), es.keys = avS l ∧ w.ownsMap Tryz.prog 9 Rn L.r nn D0 ∧ Maps.size D0 ≤ 4096 ∧ (Go.strKeys D0).Perm (l.map bsOf) ∧ l.Pairwise (fun p q => bsOf p < bsOf q) ∧ ∀ p ∈ l, p.2 < 2 ^ (8 * p.1) ∧ p.1 ≤ 9223372036854775807 := by
  obtain ⟨hq, arr, harr, hres⟩ := hb
  obtain ⟨kl, ⟨l, e1, hperm⟩, hk⟩ := ups_ok es 0 h1
  obtain ⟨i1, i2, i3, i4⟩ := hk ρ arr.toList hres
  have hkb : ∀ p ∈ kl, p.2 < 2 ^ (8 * p.1) ∧ p.1 ≤ 9223372036854775807 := fun p hp => by
    obtain ⟨i, hi⟩ := List.getElem?_of_mem hp
    have hlt : i < arr.toList.length := by rw [i1]; exact (List.getElem?_eq_some_iff.1 hi).1
    obtain ⟨p', e, _, h5, h6⟩ := i2 i _ (List.getElem?_eq_getElem hlt)
    rw [hi] at e
    injection e with e; subst e
    exact ⟨h5, h6⟩
  have hlb : ∀ p ∈ l, p.2 < 2 ^ (8 * p.1) ∧ p.1 ≤ 9223372036854775807 := fun p hp => hkb p (hperm.mem_iff.1 hp)
  rw [e1] at h2 h3
  have hs := upS0_ok l (fun p hp => (hlb p hp).1) h2
  have hlen : l.length ≤ 4096 := by
    rw [len_lst, lst_avS, List.length_map] at h3; exact h3
  have hkey : arr.toList.map (·.key) = kl.map fun p => .string (strOf p.1 p.2) := by
    apply List.ext_getElem?
    intro i
    rw [List.getElem?_map, List.getElem?_map]
    cases e : arr.toList[i]? with
    | none =>
      have : kl[i]? = none := by rw [List.getElem?_eq_none_iff] at e ⊢; omega
      rw [this]; rfl
    | some m =>
      obtain ⟨p, e2, e3, _⟩ := i2 i m e
      rw [e2]
      exact congrArg some e3
  have hrg : arr.toList.map (Go.WideElems.rg Tryz.prog 9 Rn) = kl.map fun p => (Lit.string (bsOf p), DataW.nil) := by
    apply List.ext_getElem?
    intro i
    rw [List.getElem?_map, List.getElem?_map]
    cases e : arr.toList[i]? with
    | none =>
      have : kl[i]? = none := by rw [List.getElem?_eq_none_iff] at e ⊢; omega
      rw [this]; rfl
    | some m =>
      obtain ⟨p, e2, e3, _, e5⟩ := i2 i m e
      rw [e2]
      exact congrArg some (Go.WideElems.rg_of (rg_key e3 e5))
  have hnd : (kl.map fun p => Value.string (strOf p.1 p.2)).Nodup := by
    refine (hperm.map _).nodup_iff.1 ?_
    rw [List.Nodup, List.pairwise_map]
    refine hs.imp fun {p q} hlt e => ?_
    injection e with e
    have : bsOf p = bsOf q := by unfold bsOf; rw [e]
    rw [this] at hlt
    exact List.lt_irrefl _ hlt
  have hsz : arr.size = l.length := by
    rw [← Array.length_toList, i1, hperm.length_eq]
  refine ⟨l, _, arr.size, e1, ⟨arr, c, harr, ⟨by rw [hsz, maxLen_eq]; omega, ⟨fun x hx => (i3 x hx).1, i4, by rw [hkey]; exact hnd⟩, fun x hx => ?_⟩, Nat.le_refl _, rfl⟩, ?_, ?_, hs, hlb⟩
  · obtain ⟨i, hi⟩ := List.getElem?_of_mem hx
    obtain ⟨p, _, e3, _, e5⟩ := i2 i x hi
    exact ⟨_, rg_key e3 e5⟩
  · rw [Maps.size_eq, length_sorted, List.length_map, Array.length_toList]; omega
  · show ((((arr.toList.map (Go.WideElems.rg Tryz.prog 9 Rn)).foldr DataW.insert []).map fun p => Go.strOf p.1)).Perm _
    refine ((Go.WideShapes.sorted_perm _).map _).trans ?_
    rw [hrg, List.map_map]
    exact (hperm.map bsOf).symm
theorem str_get (l : List (Nat × Nat)) (h : ∀ p ∈ l, p.2 < 2 ^ (8 * p.1) ∧ p.1 ≤ 9223372036854775807) (i : Nat) (x : Value) (hx : ((l.map bsOf).map encStr)[i]? = some x) : ∃ a, (lst (avS l))[i]? = some a ∧ (∀ ρ, Rv ρ a x) ∧ x.oneCell' = true := by
  rw [lst_avS]
  rw [List.getElem?_map, List.getElem?_map] at hx
  rw [List.getElem?_map]
  cases e : l[i]? with
  | none => rw [e] at hx; cases hx
  | some p =>
    rw [e] at hx
    injection hx with hx; subst hx
    obtain ⟨h1, h2⟩ := h p (List.mem_of_getElem? e)
    exact ⟨_, rfl, fun ρ => ⟨enc_bs p, h1, h2⟩, rfl⟩
theorem sort_end {ρ : Pl} {σ σ' : St} {w w' : World} {v : AV} {e : Ending} {l : List (Nat × Nat)} {S : List (List UInt8) → Prop} (hs : RS ρ σ w) (hl : ∀ p ∈ l, p.2 < 2 ^ (8 * p.1) ∧ p.1 ≤ 9223372036854775807) (hp : l.Pairwise (fun p q => bsOf p < bsOf q))
    (hS : ∀ ss, S ss → ss.Perm (l.map bsOf)) (h : SortRes S w e w')
    (hv : (Bool.rec (alR σ (.cells 9 (AVs.len (avS l)) (Row.putL .e 0 (avS l))) (slW (AVs.len (avS l)) 1)) (.ok (.lit (.slice none 0 0)) σ) (Nat.beq (AVs.len (avS l)) 0) : RA) = .ok v σ') :
    ∃ X, e = .returned X ∧ RRes σ ρ w v σ' X w' := by
  obtain ⟨v', ss, rfl, hss, hown, hnil, hB⟩ := h
  have hperm := hS ss hss
  rw [sort_is hp hperm] at hown
  have hlen : ss.length = l.length := by rw [hperm.length_eq, List.length_map]
  have hA : AVs.len (avS l) = l.length := by rw [len_lst, lst_avS, List.length_map]
  cases ez : Nat.beq (AVs.len (avS l)) 0
  · rw [ez] at hv
    obtain ⟨hlast, rfl, rfl⟩ := alR_ok hv
    have hne : AVs.len (avS l) ≠ 0 := fun h => by rw [h] at ez; cases ez
    rw [hlen] at hown
    obtain ⟨ρ', r1, r2, r3⟩ := own_ok (l := avS l) hs hlast hB hown (Nat.le_refl _) (by omega) (by rw [← len_lst, hA]; omega) (str_get l hl)
    refine ⟨_, rfl, ρ', ?_, r2, r3⟩
    rw [hA]
    exact r1
  · rw [ez] at hv
    injection hv with h3 h4; subst h3 h4
    have hz : AVs.len (avS l) = 0 := Nat.eq_of_beq_eq_true ez
    have hv' := hnil.2 (List.eq_nil_of_length_eq_zero (by omega))
    subst hv'
    obtain ⟨n1, n2⟩ := same_ok hs hB.os hB.tape hB.output hB.size hB.block
    exact ⟨_, rfl, ρ, rfl, n1, n2⟩
theorem len_one {a : AVs} (h : AVs.len a = 1) : ∃ x, a = .cons x .nil := by
  cases a with
  | nil => cases h
  | cons x r =>
    cases r with
    | nil => exact ⟨x, rfl⟩
    | cons y r => injection h with h; cases h
set_option maxRecDepth 20000 in
theorem w48 : CallOk Tryz.prog 48 sortedQ := prim_of (k := 1) (by kernel_rfl) fun ρ σ w T args v σ' hl hTA hs h => by
  obtain ⟨x, rfl⟩ := len1 hl
  obtain ⟨f, caps, e, h⟩ := onFn_some h RA.ne
  have hx := TA0 hTA
  rw [e] at hx
  obtain ⟨cs, hcs, rfl⟩ := hx
  obtain ⟨hchk, h⟩ := RAnat h
  obtain ⟨q1, q2⟩ := Bool.and_eq_true_iff.1 hchk
  have q1 : AVs.len caps = 1 := Nat.eq_of_beq_eq_true q1
  obtain ⟨cap, rfl⟩ := len_one q1
  have hf : f = 86 ∨ f = 331 := by
    rcases Bool.or_eq_true_iff.1 q2 with q | q
    · exact .inl (Nat.eq_of_beq_eq_true q)
    · exact .inr (Nat.eq_of_beq_eq_true q)
  obtain ⟨y, r, rfl, hy, hr⟩ := hcs
  have hr : r = [] := hr
  subst hr
  obtain ⟨b, o, e1, h⟩ := onP_some h RA.ne
  have e1 : cap = .p b o := e1
  subst e1
  obtain ⟨L, eL, rfl⟩ := hy
  obtain ⟨ho, h⟩ := RAnat h
  have ho : o = 0 := Nat.eq_of_beq_eq_true ho
  subst ho
  obtain ⟨y0, e2, h⟩ := RAofN_ok h
  obtain ⟨c0, hc0, hv0⟩ := get_ok (hs.blk b L eL) e2
  have hc0 : w.cell? ⟨L.r, 0, none⟩ = some c0 := hc0
  have hp : L.r < w.heap.size := by
    rcases Nat.lt_or_ge L.r w.heap.size with h1 | h1
    · exact h1
    · unfold World.cell? at hc0
      rw [Array.getElem?_eq_none h1] at hc0; cases hc0
  have hlit : ∀ {q : RA}, q = (onLit y0 (fun v => Bool.rec .no (.ok (.lit (.slice none 0 0)) σ) (vMp0 v)) .no) → q = .ok v σ' → ∃ u, y0 = .lit u ∧ vMp0 u = true ∧ (.ok (.lit (.slice none 0 0)) σ : RA) = .ok v σ' := fun hq hk => by
    subst hq
    obtain ⟨u, e4, hk⟩ := onLit_some hk RA.ne
    obtain ⟨k1, k2⟩ := RAnat hk
    exact ⟨u, e4, k1, k2⟩
  have hnilcase : (∃ u, y0 = .lit u ∧ vMp0 u = true ∧ (.ok (.lit (.slice none 0 0)) σ : RA) = .ok v σ') → Calls Tryz.prog 48 [Value.func (.func f) #[] [Value.pointer (some ⟨L.r, L.s + 0, none⟩)].toArray].toArray w fun e w' => ∃ X, e = .returned X ∧ RRes σ ρ w v σ' X w' := by
    rintro ⟨u, e4, k1, k2⟩
    have hu : u = .map none := by
      unfold vMp0 at k1
      split at k1 <;> first | rfl | cases k1
    subst hu e4
    have hv0 : c0 = .map none := hv0
    subst hv0
    refine Calls.mono (sorted_nil_c hf L.r w hp hc0) fun e w' hq => ?_
    exact sort_end (l := []) hs (fun p hp => by cases hp) .nil (fun ss h => by rw [h]; exact .refl _) hq k2
  unfold sortedMapQ mapOf at h
  rcases onMp_or h with ⟨b2, e3, h⟩ | h
  · rcases onMap_or h with ⟨es, c, ek, h⟩ | h
    · rw [e3] at hv0
      obtain ⟨L2, eL2, rfl⟩ := hv0
      obtain ⟨k1, h⟩ := RAnat h
      obtain ⟨k1, k2⟩ := Bool.and_eq_true_iff.1 k1
      obtain ⟨k3, k4⟩ := Bool.and_eq_true_iff.1 k1
      have hb2 := hs.blk b2 L2 eL2
      rw [ek] at hb2
      obtain ⟨l, D0, nn, g1, g2, g3, g4, g5, g6⟩ := map_owns hb2 k4 k3 (Nat.le_of_ble_eq_true k2)
      rw [g1] at h
      refine Calls.mono (sorted_c hf L.r L2.r nn D0 Rn w hp hc0 g2 (by rw [maxLen_eq]; omega) (by omega)) fun e w' hq => ?_
      exact sort_end hs g6 g5 (fun ss h => h.trans g4) hq h
    · exact hnilcase (hlit rfl h)
  · exact hnilcase (hlit rfl h)
end Go.Proofs.YtaogloegiffioaaGreatDoor
