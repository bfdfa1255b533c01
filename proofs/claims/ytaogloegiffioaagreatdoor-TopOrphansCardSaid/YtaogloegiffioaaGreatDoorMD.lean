import Derived.Test.YtaogloegiffioaaGreatDoorMC
import Derived.Orders
import Derived.Scope
set_option linter.all false
namespace Go.Proofs.YtaogloegiffioaaGreatDoor
theorem v_run {P : Program} {s : Sem Value} {u : Value} {w w' : World} (h : s.run P w = .ok u w') : (do pure (.value (← s)) : Sem Next).run P w = .ok (.value u) w' := by simp [h]
theorem u_run {P : Program} {s : Sem Unit} {w w' : World} (h : s.run P w = .ok () w') : (do s; pure .skip : Sem Next).run P w = .ok .skip w' := by simp [h]
theorem cAV_ok {ρ : Pl} (v : Value) : Rv ρ (cAV v) v := by
  unfold cAV
  split
  · next cs =>
    split
    · next h =>
      obtain ⟨h1, h2⟩ := Bool.and_eq_true_iff.1 h
      have hr := mkRow_of (ρ := ρ) (cs := cs.toList) (by simpa using h1) h2
      exact ⟨cs.toList, by simp, rfl, hr.1, hr.2.1, hr.2.2⟩
    · exact rfl
  · exact rfl
  · exact cA1_ok _
def Slots (ρ : Pl) (T : Tm) (a : Act) (op : Op) : Prop := ∀ x ∈ op.operands, Rv ρ (opd x T) (a.eval x)
theorem opd_ok {ρ : Pl} {T : Tm} {a : Act} (x : Operand) (h : ∀ t, x = .tmp t → Rv ρ (getN t T) (a.tmps.getD t undef)) : Rv ρ (opd x T) (a.eval x) := by
  cases x with
  | tmp t => exact h t rfl
  | const v => exact cAV_ok v
  | global g => exact rfl
  | func f => exact ⟨[], rfl, rfl⟩
def EvOk (P : Program) (o : Oper) (e : E) : Prop := ∀ (ρ : Pl) (T : Tm) (σ : St) (w : World) (a : Act) (v : AV), Slots ρ T a o.op → RS ρ σ w → e T σ = .ok v →
  ∃ X, (execOp a.eval o).run P w = .ok (.value X) w ∧ Rv ρ v X
def NwOk (P : Program) (o : Oper) (e : N) : Prop := ∀ (ρ : Pl) (T : Tm) (w : World) (a : Act) (k : Blk) (f : Bid → AV), Slots ρ T a o.op → e T = .ok k f →
  ∃ X w', (execOp a.eval o).run P w = .ok (.value X) w' ∧ NRes ρ w k f X w'
def ExOk (P : Program) (o : Oper) (e : R) : Prop := ∀ (ρ : Pl) (T : Tm) (σ : St) (w : World) (a : Act) (v : AV) (σ' : St), Slots ρ T a o.op → RS ρ σ w → e T σ = .ok v σ' →
  ∀ (K : Act → World → Prop) (Q : Exit → Act → World → Prop), (∀ (ρ' : Pl) (X : Value) (w' : World), Rv ρ' v X → RS ρ' σ' w' → Step σ ρ w σ' ρ' w' → K (a.put o.dst X) w') → o.wp P a w K Q
def IOk (P : Program) (o : Oper) : I → Prop
  | .ev e => EvOk P o e
  | .nw e => NwOk P o e
  | .ex e => ExOk P o e
theorem noI_ok {P : Program} {o : Oper} : IOk P o noI := fun _ _ _ _ _ _ _ _ _ h => by cases h
theorem noE_ok {P : Program} {o : Oper} : EvOk P o noE := fun _ _ _ _ _ _ _ _ h => by cases h
theorem ex_value {P : Program} {o : Oper} {ρ : Pl} {σ σ' : St} {w w' : World} {a : Act} {v : AV} {X : Value} (h : (execOp a.eval o).run P w = .ok (.value X) w') (hr : RRes σ ρ w v σ' X w')
    {K : Act → World → Prop} {Q : Exit → Act → World → Prop} (hK : ∀ (ρ' : Pl) (X : Value) (w' : World), Rv ρ' v X → RS ρ' σ' w' → Step σ ρ w σ' ρ' w' → K (a.put o.dst X) w') : o.wp P a w K Q := by
  obtain ⟨ρ', h1, h2, h3⟩ := hr
  unfold Oper.wp
  rw [h]
  exact hK ρ' X w' h1 h2 h3
theorem ex_skip {P : Program} {o : Oper} {ρ : Pl} {σ σ' : St} {w : World} {a : Act} {v : AV} (h : v = undefA ∧ ∃ w', (execOp a.eval o).run P w = .ok .skip w' ∧ RS ρ σ' w' ∧ Step σ ρ w σ' ρ w')
    {K : Act → World → Prop} {Q : Exit → Act → World → Prop} (hK : ∀ (ρ' : Pl) (X : Value) (w' : World), Rv ρ' v X → RS ρ' σ' w' → Step σ ρ w σ' ρ' w' → K (a.put o.dst X) w') : o.wp P a w K Q := by
  obtain ⟨rfl, w', h1, h2, h3⟩ := h
  unfold Oper.wp
  rw [h1]
  exact hK ρ undef w' rfl h2 h3
section
variable {P : Program} {dst : Option Tmp} {ty : TypeId} {pos : String} {af : Array Edge} {gd : Option (Nat × Bool)}
theorem i_move (x : Operand) : EvOk P ⟨dst, .move x, ty, pos, af, gd⟩ (mv (opd x)) := fun ρ T σ w a v hO _ h => by
  injection h with h; subst h
  exact ⟨_, rfl, hO x (by simp [Op.operands])⟩
theorem i_assign (x : Operand) : EvOk P ⟨dst, .assign x, ty, pos, af, gd⟩ (mv (opd x)) := fun ρ T σ w a v hO _ h => by
  injection h with h; subst h
  exact ⟨_, rfl, hO x (by simp [Op.operands])⟩
theorem i_pick (c x y : Operand) : EvOk P ⟨dst, .pick c x y, ty, pos, af, gd⟩ (pick (opd c) (opd x) (opd y)) := fun ρ T σ w a v hO _ h =>
  pick_ok (hO c (by simp [Op.operands])) (hO x (by simp [Op.operands])) (hO y (by simp [Op.operands])) h
theorem i_alloc (t : TypeId) {l : List Value} (hz : zrowA P t = some l) : NwOk P ⟨dst, .alloc t, ty, pos, af, gd⟩ (al t l.length (mkRow (l.map cA1))) := fun ρ T w a k f _ h => by
  injection h with h1 h2; subst h1 h2
  obtain ⟨u, w', h1, h2⟩ := al_ok (P := P) (ρ := ρ) (w := w) hz
  exact ⟨u, w', v_run h1, h2⟩
theorem i_box1 (t : TypeId) (x : Operand) : NwOk P ⟨dst, .box t x, ty, pos, af, gd⟩ (bx1 t (opd x)) := fun ρ T w a k f hO h => by
  obtain ⟨u, w', h1, h2⟩ := bx1_ok (P := P) (w := w) (hO x (by simp [Op.operands])) h
  exact ⟨u, w', v_run h1, h2⟩
theorem i_boxN (t : TypeId) (n : Nat) (x : Operand) : NwOk P ⟨dst, .box t x, ty, pos, af, gd⟩ (bxN t n (opd x)) := fun ρ T w a k f hO h => by
  obtain ⟨u, w', h1, h2⟩ := bxN_ok (P := P) (w := w) (hO x (by simp [Op.operands])) h
  exact ⟨u, w', v_run h1, h2⟩
theorem plA_ps {ρ : Pl} {T : Tm} {a : Act} {place : Nat → Option (Nat × TypeId)} {pl : Nat → Option (Nat × Nat)} : ∀ (ps : List (Nat × Operand)) (l : PL), plA P place ps = some l →
    (∀ p ∈ ps, ∀ off t, place p.1 = some (off, t) → ∃ n, sizeA P t = some n ∧ pl p.1 = some (off, n) ∧ (isAggA P t = some false → n = 1)) → (∀ p ∈ ps, Rv ρ (opd p.2 T) (a.eval p.2)) → Ps ρ T pl l (ps.map fun p => (p.1, a.eval p.2))
  | [], l, h, _, _ => by injection h with h; subst h; exact .nil
  | (i, x) :: ps, l, h, hp, hO => by
    unfold plA at h
    have hO1 := hO (i, x) List.mem_cons_self
    have hp1 := hp (i, x) List.mem_cons_self
    have ih := fun l h => plA_ps ps l h (fun p h => hp p (List.mem_cons_of_mem _ h)) (fun p h => hO p (List.mem_cons_of_mem _ h))
    cases e1 : place i with
    | none => rw [e1] at h; cases h
    | some q =>
      obtain ⟨off, t⟩ := q
      rw [e1] at h; simp only at h
      obtain ⟨n, n1, n2, n3⟩ := hp1 off t e1
      cases e2 : plA P place ps with
      | none => rw [e2] at h; cases h
      | some l' =>
        rw [e2] at h; simp only at h
        have ih := ih l' e2
        cases e3 : isAggA P t with
        | none => rw [e3] at h; cases h
        | some b =>
          rw [e3] at h
          cases b with
          | false =>
            simp only at h; injection h with h; subst h
            rw [n3 e3] at n2
            exact .one n2 hO1 ih
          | true =>
            rw [n1] at h; simp only at h; injection h with h; subst h
            exact .many n2 hO1 ih
theorem places_get {fs : List Field} {l : List (Nat × Nat)} (h : placesA P fs = some l) : ∀ (i : Nat) (f : Field), fs[i]? = some f → ∃ n, sizeA P f.type = some n ∧ l[i]? = some (f.offset, n) := by
  induction fs generalizing l with
  | nil => intro i f h; simp at h
  | cons g r ih =>
    unfold placesA at h
    cases h1 : sizeA P g.type with
    | none => rw [h1] at h; cases h
    | some n =>
      cases h2 : placesA P r with
      | none => rw [h1, h2] at h; cases h
      | some l' =>
        rw [h1, h2] at h; injection h with h; subst h
        intro i f hi
        cases i with
        | zero => simp at hi; subst hi; exact ⟨n, h1, rfl⟩
        | succ i => simpa using ih h2 i f (by simpa using hi)
def fieldsOk (P : Program) (fs : List Field) (len : Nat) : Bool := match placesA P fs with
  | some l => l.all (fun p => p.1 + p.2 ≤ len) && fs.all fun f => isAggA P f.type != some false || sizeA P f.type == some 1
  | none => false
theorem mem_parts {ps : Array (Nat × Operand)} {p : Nat × Operand} (h : p ∈ ps.toList) : p.2 ∈ (ps.toList.map (·.2)).toArray := by
  simp; exact ⟨p.1, by simpa using h⟩
theorem i_bld_s (t : TypeId) (ps : Array (Nat × Operand)) {fs : Array Field} {z : List Value} {l : PL} (hu : P.underlying t = some (.struct fs)) (hz : zrowA P t = some z) (hl : plA P (fun i => match fs[i]? with
      | some f => some (f.offset, f.type)
      | none => none) ps.toList = some l) (hok : fieldsOk P fs.toList z.length = true) : EvOk P ⟨dst, .build t ps, ty, pos, af, gd⟩ (bld z.length (mkRow (z.map cA1)) l) := fun ρ T σ w a v hO _ h => by
  unfold fieldsOk at hok
  cases hp : placesA P fs.toList with
  | none => rw [hp] at hok; cases hok
  | some pl =>
    rw [hp] at hok
    obtain ⟨k1, k2⟩ := Bool.and_eq_true_iff.1 hok
    have hps := plA_ps (ρ := ρ) (T := T) (a := a) (pl := fun i => pl[i]?) ps.toList l hl (fun p _ off t' e => by
      cases hf : fs[p.1]? with
      | none => rw [hf] at e; cases e
      | some f =>
        rw [hf] at e; injection e with e; injection e with e1 e2; subst e1 e2
        have hf' : fs.toList[p.1]? = some f := by simpa using hf
        obtain ⟨n, n1, n2⟩ := places_get hp p.1 f hf'
        refine ⟨n, n1, n2, fun hb => ?_⟩
        have := List.all_eq_true.1 k2 f (List.mem_of_getElem? hf')
        rw [hb, n1] at this
        simpa using this) (fun p hp => hO p.2 (mem_parts hp))
    obtain ⟨u, h1, h2⟩ := bld_s_ok (w := w) hz hu hp (fun i o n e => by
      have := List.all_eq_true.1 k1 (o, n) (List.mem_of_getElem? e)
      simpa using this) hps h
    refine ⟨u, v_run ?_, h2⟩
    rw [← h1]
    congr 2
    apply Array.ext'
    simp
theorem i_bld_a (t : TypeId) (ps : Array (Nat × Operand)) {e N n : Nat} {z : List Value} {l : PL} (hu : P.underlying t = some (.array N e)) (hz : zrowA P t = some z) (hn : sizeA P e = some n) (hl : plA P (fun i => some (i * n, e)) ps.toList = some l)
    (hok : ps.toList.all (fun p => p.1 * n + n ≤ z.length) = true) (hok2 : (isAggA P e != some false || n == 1) = true) : EvOk P ⟨dst, .build t ps, ty, pos, af, gd⟩ (bld z.length (mkRow (z.map cA1)) l) := fun ρ T σ w a v hO _ h => by
  have hps := plA_ps (ρ := ρ) (T := T) (a := a) (pl := fun i => if i * n + n ≤ z.length then some (i * n, n) else none) ps.toList l hl (fun p hp off t' e => by
    injection e with e; injection e with e1 e2; subst e1 e2
    refine ⟨n, hn, if_pos (by simpa using List.all_eq_true.1 hok p hp), fun hb => ?_⟩
    rw [hb] at hok2
    simpa using hok2) (fun p hp => hO p.2 (mem_parts hp))
  obtain ⟨u, h1, h2⟩ := bld_a_ok (w := w) hz hu hn (fun i X hm => by
    obtain ⟨p, p1, p2⟩ := List.mem_map.1 hm
    injection p2 with p2 _
    rw [← p2]
    simpa using List.all_eq_true.1 hok p p1) hps h
  refine ⟨u, v_run ?_, h2⟩
  rw [← h1]
  congr 2
  apply Array.ext'
  simp
theorem i_bsl (t len : Nat) (ps : Array (Nat × Operand)) {e n : Nat} {z : List Value} {l : PL} (hu : P.underlying t = some (.slice e)) (hz : zrowA P e = some z) (hn : sizeA P e = some n) (hl : plA P (fun i => some (i * n, e)) ps.toList = some l)
    (hzl : z.length = n) (h0 : 0 < n) (hlen : len * n ≤ 4096)
    (hok : ps.toList.all (fun p => p.1 * n + n ≤ len * n) = true) (hok2 : (isAggA P e != some false || n == 1) = true) : NwOk P ⟨dst, .buildSlice t len ps, ty, pos, af, gd⟩ (bsl e len n (mkRow ((List.replicate len z).flatten.map cA1)) l) := fun ρ T w a k f hO h => by
  have hps := plA_ps (ρ := ρ) (T := T) (a := a) (pl := fun i => if i * n + n ≤ len * n then some (i * n, n) else none) ps.toList l hl (fun p hp off t' e => by
    injection e with e; injection e with e1 e2; subst e1 e2
    refine ⟨n, hn, if_pos (by simpa using List.all_eq_true.1 hok p hp), fun hb => ?_⟩
    rw [hb] at hok2
    simpa using hok2) (fun p hp => hO p.2 (mem_parts hp))
  obtain ⟨u, w', h1, h2⟩ := bsl_ok (w := w) hu hz hn hzl h0 hlen (fun i X hm => by
    obtain ⟨p, p1, p2⟩ := List.mem_map.1 hm
    injection p2 with p2 _
    rw [← p2]
    simpa using List.all_eq_true.1 hok p p1) hps h
  refine ⟨u, w', v_run ?_, h2⟩
  rw [← h1]
  congr 2
  apply Array.ext'
  simp
theorem plA_pk {ρ : Pl} {T : Tm} {a : Act} {e : TypeId} : ∀ (ps : List (Nat × Operand)) (l : PL), plA P (fun i => some (i, e)) ps = some l → isAggA P e = some false →
    (∀ p ∈ ps, Rv ρ (opd p.2 T) (a.eval p.2)) → Pk ρ T l (ps.map fun p => a.eval p.2)
  | [], l, h, _, _ => by injection h with h; subst h; exact .nil
  | (i, x) :: ps, l, h, he, hO => by
    unfold plA at h
    simp only at h
    cases e2 : plA P (fun i => some (i, e)) ps with
    | none => rw [e2] at h; cases h
    | some l' =>
      rw [e2, he] at h; simp only at h
      injection h with h; subst h
      exact .one (hO (i, x) List.mem_cons_self) (plA_pk ps l' e2 he fun p h => hO p (List.mem_cons_of_mem _ h))
theorem zip_range {α β : Type} (f : α → β) : ∀ (ps : List (Nat × α)) (n : Nat), ps.map (·.1) = List.range' n ps.length → ((ps.map fun p => f p.2).zipIdx n).map (fun p => (p.2, p.1)) = ps.map fun p => (p.1, f p.2)
  | [], _, _ => rfl
  | (i, x) :: ps, n, h => by
    simp only [List.map_cons, List.length_cons, List.range'_succ, List.cons.injEq] at h
    obtain ⟨h1, h2⟩ := h
    simp only [List.map_cons, List.zipIdx_cons, List.cons.injEq]
    refine ⟨by rw [h1], ?_⟩
    exact zip_range f ps (n + 1) h2
theorem i_bslk (t len : Nat) (ps : Array (Nat × Operand)) {e : Nat} {κ : PK} {z : Value} {i : TypeInfo} {l : PL} (hu : P.underlying t = some (.slice e)) (hi : P.info? e = some i) (hz : i.zero = some z) (hn : i.size = 1) (hl : plA P (fun i => some (i, e)) ps.toList = some l)
    (ha : isAggA P e = some false) (hlen : len ≤ 4096) (hok : ps.toList.map (·.1) = List.range len) : NwOk P ⟨dst, .buildSlice t len ps, ty, pos, af, gd⟩ (bslk κ e len l) := fun ρ T w a k f hO h => by
  have hpk := plA_pk (ρ := ρ) (T := T) (a := a) ps.toList l hl ha (fun p hp => hO p.2 (mem_parts hp))
  have hl2 : ps.toList.length = len := by
    have := congrArg List.length hok
    simpa using this
  obtain ⟨u, w', h1, h2⟩ := bslk_ok (P := P) (w := w) (z := z) hu (by simp [sizeA, hi, hn]) (fun w => by simp [zeroValue, typeInfo, hi, hz]) (by simpa using hl2) hlen hpk h
  refine ⟨u, w', v_run ?_, h2⟩
  rw [← h1]
  congr 2
  rw [zip_range a.eval ps.toList 0 (by rw [hok, List.range_eq_range', hl2])]
  apply Array.ext'
  simp
theorem i_ldN (t : TypeId) (x : Operand) {n : Nat} (ha : isAggA P t = some true) (hn : sizeA P t = some n) : EvOk P ⟨dst, .load t x, ty, pos, af, gd⟩ (ldN n (opd x)) := fun ρ T σ w a v hO hs h => by
  obtain ⟨y, h1, h2⟩ := ldN_ok hs ha hn (hO x (by simp [Op.operands])) h
  exact ⟨y, v_run h1, h2⟩
theorem i_ld1 (t : TypeId) (x : Operand) (ha : isAggA P t = some false) : EvOk P ⟨dst, .load t x, ty, pos, af, gd⟩ (ld1 (opd x)) := fun ρ T σ w a v hO hs h => by
  obtain ⟨y, h1, h2⟩ := ld1_ok hs ha (hO x (by simp [Op.operands])) h
  exact ⟨y, v_run h1, h2⟩
theorem i_stN (t : TypeId) (x y : Operand) {n : Nat} (hn : sizeA P t = some n) : ExOk P ⟨dst, .store t x y, ty, pos, af, gd⟩ (stN n (opd x) (opd y)) := fun ρ T σ w a v σ' hO hs h K Q hK => by
  obtain ⟨h1, w', h2, h3⟩ := stN_ok hs hn (hO x (by simp [Op.operands])) (hO y (by simp [Op.operands])) h
  exact ex_skip (o := ⟨dst, .store t x y, ty, pos, af, gd⟩) ⟨h1, w', u_run h2, h3⟩ hK
theorem i_st1 (t : TypeId) (x y : Operand) (hn : sizeA P t = some 1) : ExOk P ⟨dst, .store t x y, ty, pos, af, gd⟩ (st1 (opd x) (opd y)) := fun ρ T σ w a v σ' hO hs h K Q hK => by
  obtain ⟨h1, w', h2, h3⟩ := st1_ok hs hn (hO x (by simp [Op.operands])) (hO y (by simp [Op.operands])) h
  exact ex_skip (o := ⟨dst, .store t x y, ty, pos, af, gd⟩) ⟨h1, w', u_run h2, h3⟩ hK
theorem i_nilc (x : Operand) : EvOk P ⟨dst, .nilCheck x, ty, pos, af, gd⟩ (nilc (opd x)) := fun ρ T σ w a v hO _ h =>
  ⟨_, nilc_ok (o := ⟨dst, .nilCheck x, ty, pos, af, gd⟩) (hO x (by simp [Op.operands])) h rfl rfl⟩
theorem i_bin (op : BinOp) (t yt : TypeId) (x y : Operand) {e : E} (he : ∀ (ρ : Pl) (T : Tm) (σ : St) (v : AV) (X Y : Value), Rv ρ (opd x T) X → Rv ρ (opd y T) Y → e T σ = .ok v → BinT P ρ op t X Y v) :
    EvOk P ⟨dst, .binOp op t x y yt, ty, pos, af, gd⟩ e := fun ρ T σ w a v hO _ h => by
  obtain ⟨z, h1, h2⟩ := he ρ T σ v _ _ (hO x (by simp [Op.operands])) (hO y (by simp [Op.operands])) h x y w
  exact ⟨z, v_run h1, h2⟩
theorem i_un (op : UnOp) (t : TypeId) (x : Operand) {e : E} (he : ∀ (ρ : Pl) (T : Tm) (σ : St) (v : AV) (X : Value), Rv ρ (opd x T) X → e T σ = .ok v → ∀ w, ∃ z, (Op.unary op X).run P w = .ok z w ∧ Rv ρ v z) :
    EvOk P ⟨dst, .unOp op t x, ty, pos, af, gd⟩ e := fun ρ T σ w a v hO _ h => by
  obtain ⟨z, h1, h2⟩ := he ρ T σ v _ (hO x (by simp [Op.operands])) h w
  exact ⟨z, v_run h1, h2⟩
section
variable {ρ : Pl} {x y : G} {T : Tm} {σ : St} {v : AV} {X Y : Value} {t : TypeId}
theorem bin_i64_ok (op : BinOp) (hx : Rv ρ (x T) X) (hy : Rv ρ (y T) Y) (h : bin_i64 x y op T σ = .ok v) : Bin P ρ op X Y v := by
  cases op <;> first | exact add_i64_ok (σ := σ) hx hy h | exact sub_i64_ok (σ := σ) hx hy h | exact mul_i64_ok (σ := σ) hx hy h | exact quo_i64_ok (σ := σ) hx hy h | exact rem_i64_ok (σ := σ) hx hy h | exact and_i64_ok (σ := σ) hx hy h | exact or_i64_ok (σ := σ) hx hy h | exact xor_i64_ok (σ := σ) hx hy h | exact shl_i64_ok (σ := σ) hx hy h | exact shr_i64_ok (σ := σ) hx hy h | exact eql_i64_ok (σ := σ) hx hy h | exact neq_i64_ok (σ := σ) hx hy h | exact lss_i64_ok (σ := σ) hx hy h | exact leq_i64_ok (σ := σ) hx hy h | exact gtr_i64_ok (σ := σ) hx hy h | exact geq_i64_ok (σ := σ) hx hy h | (cases h; done)
theorem bin_u64_ok (op : BinOp) (hx : Rv ρ (x T) X) (hy : Rv ρ (y T) Y) (h : bin_u64 x y op T σ = .ok v) : Bin P ρ op X Y v := by
  cases op <;> first | exact add_u64_ok (σ := σ) hx hy h | exact sub_u64_ok (σ := σ) hx hy h | exact mul_u64_ok (σ := σ) hx hy h | exact quo_u64_ok (σ := σ) hx hy h | exact rem_u64_ok (σ := σ) hx hy h | exact and_u64_ok (σ := σ) hx hy h | exact or_u64_ok (σ := σ) hx hy h | exact xor_u64_ok (σ := σ) hx hy h | exact shl_u64_ok (σ := σ) hx hy h | exact shr_u64_ok (σ := σ) hx hy h | exact eql_u64_ok (σ := σ) hx hy h | exact neq_u64_ok (σ := σ) hx hy h | exact lss_u64_ok (σ := σ) hx hy h | exact gtr_u64_ok (σ := σ) hx hy h | exact geq_u64_ok (σ := σ) hx hy h | (cases h; done)
theorem bin_u8_ok (op : BinOp) (hx : Rv ρ (x T) X) (hy : Rv ρ (y T) Y) (h : bin_u8 x y op T σ = .ok v) : Bin P ρ op X Y v := by
  cases op <;> first | exact add_u8_ok (σ := σ) hx hy h | exact and_u8_ok (σ := σ) hx hy h | exact or_u8_ok (σ := σ) hx hy h | exact shl_u8_ok (σ := σ) hx hy h | exact shr_u8_ok (σ := σ) hx hy h | exact eql_u8_ok (σ := σ) hx hy h | exact lss_u8_ok (σ := σ) hx hy h | exact leq_u8_ok (σ := σ) hx hy h | exact gtr_u8_ok (σ := σ) hx hy h | exact geq_u8_ok (σ := σ) hx hy h | (cases h; done)
theorem bin_u32_ok (op : BinOp) (hx : Rv ρ (x T) X) (hy : Rv ρ (y T) Y) (h : bin_u32 x y op T σ = .ok v) : Bin P ρ op X Y v := by
  cases op <;> first | exact add_u32_ok (σ := σ) hx hy h | exact mul_u32_ok (σ := σ) hx hy h | exact quo_u32_ok (σ := σ) hx hy h | exact rem_u32_ok (σ := σ) hx hy h | exact and_u32_ok (σ := σ) hx hy h | exact shr_u32_ok (σ := σ) hx hy h | exact eql_u32_ok (σ := σ) hx hy h | exact geq_u32_ok (σ := σ) hx hy h | (cases h; done)
theorem bin_i32_ok (op : BinOp) (hx : Rv ρ (x T) X) (hy : Rv ρ (y T) Y) (h : bin_i32 x y op T σ = .ok v) : Bin P ρ op X Y v := by
  cases op <;> first | exact add_i32_ok (σ := σ) hx hy h | exact sub_i32_ok (σ := σ) hx hy h | exact mul_i32_ok (σ := σ) hx hy h | exact eql_i32_ok (σ := σ) hx hy h | exact lss_i32_ok (σ := σ) hx hy h | exact gtr_i32_ok (σ := σ) hx hy h | exact geq_i32_ok (σ := σ) hx hy h | (cases h; done)
theorem bin_s_ok (op : BinOp) (hx : Rv ρ (x T) X) (hy : Rv ρ (y T) Y) (h : bin_s x y op T σ = .ok v) : Bin P ρ op X Y v := by
  cases op <;> first | exact add_s_ok (σ := σ) hx hy h | exact eql_s_ok (σ := σ) hx hy h | exact neq_s_ok (σ := σ) hx hy h | exact lss_s_ok (σ := σ) hx hy h | exact gtr_s_ok (σ := σ) hx hy h | exact geq_s_ok (σ := σ) hx hy h | (cases h; done)
def eqOk (P : Program) (t : TypeId) : Bool := match P.underlying t with
  | some (.struct _) => !P.stoodInHeld t && !P.eqGuardType P.depth t
  | _ => true
theorem binI_ok (op : BinOp) (hok : eqOk P t = true) (hx : Rv ρ (x T) X) (hy : Rv ρ (y T) Y) (h : binI P op t x y T σ = .ok v) : BinT P ρ op t X Y v := by
  obtain ⟨e, he⟩ : ∃ e, binI P op t x y = e := ⟨_, rfl⟩
  rw [he] at h
  unfold binI at he
  split at he <;> subst he
  · exact (bin_i64_ok op hx hy h).t t
  · exact (bin_u64_ok op hx hy h).t t
  · exact (bin_u8_ok op hx hy h).t t
  · exact (bin_u32_ok op hx hy h).t t
  · exact (bin_i32_ok op hx hy h).t t
  · exact (bin_s_ok op hx hy h).t t
  · next hu => cases op <;> first | exact eql_b_ok (σ := σ) hu hx hy h | exact neq_b_ok (σ := σ) hu hx hy h | (cases h; done)
  · next hu => cases op <;> first | exact eq_p hu hx hy false h | exact eq_p hu hx hy true h | (cases h; done)
  · next hu => cases op <;> first | exact eq_l hu hx hy false h | exact eq_l hu hx hy true h | (cases h; done)
  · next hu => cases op <;> first | exact eq_m hu hx hy false h | exact eq_m hu hx hy true h | (cases h; done)
  · next hu =>
    unfold eqOk at hok
    rw [hu] at hok
    obtain ⟨k1, k2⟩ := Bool.and_eq_true_iff.1 hok
    have k1 : P.stoodInHeld t = false := by simpa using k1
    have k2 : P.eqGuardType P.depth t = false := by simpa using k2
    have hfs : ∀ l, eqlA P t = some l → ∃ g, elsA P 3 0 g (_ : Array Field).toList .nil = some l := fun l hl => by
      unfold eqlA at hl; rw [hu] at hl
      cases hg : sizeA P t with
      | none => rw [hg] at hl; cases hl
      | some g => rw [hg] at hl; exact ⟨g, hl⟩
    cases op <;> first
      | (cases hl : eqlA P t with
         | none => rw [hl] at h; cases h
         | some l => rw [hl] at h; obtain ⟨g, hg⟩ := hfs l hl; exact eqA_ok hu hg k1 k2 false hx hy h)
      | (cases hl : eqlA P t with
         | none => rw [hl] at h; cases h
         | some l => rw [hl] at h; obtain ⟨g, hg⟩ := hfs l hl; exact eqA_ok hu hg k1 k2 true hx hy h)
      | (cases h; done)
  · cases h
theorem unI_ok (op : UnOp) (hx : Rv ρ (x T) X) (h : unI P op t x T σ = .ok v) (w : World) : ∃ z, (Op.unary op X).run P w = .ok z w ∧ Rv ρ v z := by
  obtain ⟨e, he⟩ : ∃ e, unI P op t x = e := ⟨_, rfl⟩
  rw [he] at h
  unfold unI at he
  split at he <;> subst he
  · exact not_b_ok (σ := σ) hx h w
  · exact neg_i_ok (σ := σ) hx h w
  · exact neg_u64_ok (σ := σ) hx h w
  · exact neg_u32_ok (σ := σ) hx h w
  · exact com_u64_ok (σ := σ) hx h w
  · exact com_u32_ok (σ := σ) hx h w
  · exact com_i64_ok (σ := σ) hx h w
  · cases h
end
end
end Go.Proofs.YtaogloegiffioaaGreatDoor
namespace Go.Proofs.YtaogloegiffioaaGreatDoor
section
variable {P : Program} {dst : Option Tmp} {ty : TypeId} {pos : String} {af : Array Edge} {gd : Option (Nat × Bool)}
theorem i_cv (src d : TypeId) (x : Operand) {e : E} (he : ∀ (ρ : Pl) (T : Tm) (σ : St) (w : World) (v : AV) (X : Value), RS ρ σ w → Rv ρ (opd x T) X → e T σ = .ok v → ∃ z, (convert src d X).run P w = .ok z w ∧ Rv ρ v z) :
    EvOk P ⟨dst, .convert src d x, ty, pos, af, gd⟩ e := fun ρ T σ w a v hO hs h => by
  obtain ⟨z, h1, h2⟩ := he ρ T σ w v _ hs (hO x (by simp [Op.operands])) h
  exact ⟨z, v_run h1, h2⟩
theorem cv_st_ok {ρ : Pl} {x : G} {T : Tm} {σ : St} {v : AV} {X : Value} {src d : TypeId} {w : World} (hs : P.underlying src = some .string) (hd : P.underlying d = some .string) (hx : Rv ρ (x T) X) (h : cv_st x T σ = .ok v) : ∃ z, (convert src d X).run P w = .ok z w ∧ Rv ρ v z := by
  unfold cv_st at h
  obtain ⟨l, n, e1, h⟩ := onS_some h OA.ne
  injection h with h; subst h
  have hx' := hx
  rw [e1] at hx'
  exact ⟨X, by rw [show X = _ from hx'.1]; simp [convert, run_underlying hs, run_underlying hd], hx⟩
theorem cvI_ok (src d : TypeId) (x : Operand) : IOk P ⟨dst, .convert src d x, ty, pos, af, gd⟩ (cvI P src d (opd x)) := by
  unfold cvI
  split
  · next h1 h2 => exact i_cv src d x fun ρ T σ w v X _ hx h => cv_ok h1 h2 (fun n u => w64_ok) hx h w
  · next h1 h2 => exact i_cv src d x fun ρ T σ w v X _ hx h => cv_ok h1 h2 (fun n u => w32_ok) hx h w
  · next h1 h2 => exact i_cv src d x fun ρ T σ w v X _ hx h => cv_ok h1 h2 (fun n u => wu64_ok) hx h w
  · next h1 h2 => exact i_cv src d x fun ρ T σ w v X _ hx h => cv_ok h1 h2 (fun n u => wu32_ok) hx h w
  · next h1 h2 => exact i_cv src d x fun ρ T σ w v X _ hx h => cv_ok h1 h2 (fun n u => wu8_ok) hx h w
  · next h1 h2 => exact i_cv src d x fun ρ T σ w v X _ hx h => cv_st_ok h1 h2 hx h
  · next h1 h2 =>
    split
    · next h3 => exact i_cv src d x fun ρ T σ w v X hs hx h => cv_str_ok hs h1 h2 h3 hx h
    · exact noI_ok
  · next h1 h2 =>
    split
    · next heq =>
      split
      · next h3 =>
        exact fun ρ T σ w a v σ' hO hs h K Q hK => by
          obtain ⟨rfl, rfl, w', g1, g2, g3⟩ := cv_ss_ok hs h1 h2 h3 heq (hO x (by simp [Op.operands])) h
          exact ex_value (o := ⟨dst, .convert src d x, ty, pos, af, gd⟩) (v_run g1) ⟨ρ, hO x (by simp [Op.operands]), g2, g3⟩ hK
      · exact noI_ok
    · exact noI_ok
  · next h1 h2 =>
    split
    · next h3 =>
      exact fun ρ T w a k f hO h => by
        obtain ⟨u, w', g1, g2⟩ := cv_bs_ok (w := w) h1 h2 h3 (hO x (by simp [Op.operands])) h
        exact ⟨u, w', v_run g1, g2⟩
    · exact noI_ok
  · exact noI_ok
theorem i_mkI (t : TypeId) (x : Operand) {d : TypeDesc} (hu : P.underlying t = some d) (hd : ∀ ms, d ≠ .interface ms) : EvOk P ⟨dst, .makeInterface t x, ty, pos, af, gd⟩ (mkI t (opd x)) := fun ρ T σ w a v hO _ h => by
  injection h with h; subst h
  obtain ⟨h1, h2⟩ := mkI_ok (x := opd x) (T := T) (w := w) hu hd (hO x (by simp [Op.operands]))
  exact ⟨_, v_run h1, h2⟩
theorem argsS_ok {ρ : Pl} {T : Tm} {a : Act} : ∀ (l : List Operand), (∀ x ∈ l, Rv ρ (opd x T) (a.eval x)) → Rvs ρ (argsS l T) (l.map a.eval)
  | [], _ => rfl
  | x :: l, h => ⟨a.eval x, l.map a.eval, rfl, h x List.mem_cons_self, argsS_ok l fun y hy => h y (List.mem_cons_of_mem _ hy)⟩
theorem i_mkF (g : FuncId) (first caps : Array Operand) (hf : first.toList = []) : EvOk P ⟨dst, .makeFunc (.func g) first caps, ty, pos, af, gd⟩ (mkF g (argsS caps.toList)) := fun ρ T σ w a v hO _ h => by
  injection h with h; subst h
  have hf : first = #[] := by apply Array.ext'; simpa using hf
  subst hf
  refine ⟨.func (.func g) #[] (caps.map a.eval), by simp [execOp, Instr.makeFunc], (caps.toList.map a.eval), argsS_ok _ fun x hx => hO x (by simp [Op.operands]; simpa using hx), ?_⟩
  congr 1
  apply Array.ext'
  simp
theorem i_mmp (t : TypeId) : NwOk P ⟨dst, .makeMap t none, ty, pos, af, gd⟩ mmp := fun ρ T w a k f _ h => by
  obtain ⟨u, w', h1, h2⟩ := mmp_ok (P := P) (ρ := ρ) (w := w) (t := t) h
  exact ⟨u, w', v_run h1, h2⟩
theorem i_msl (t : TypeId) (x y : Operand) {e : Nat} {i : TypeInfo} {z : Value} {zl : List Value} (hu : P.underlying t = some (.slice e)) (hi : P.info? e = some i) (hz : i.zero = some z) (hzl : zrowA P e = some zl) (hsz : zl.length = i.size) (h0 : 0 < i.bytes) (h1 : 0 < i.size) (h2 : i.size ≤ i.bytes) :
    NwOk P ⟨dst, .makeSlice t x y, ty, pos, af, gd⟩ (msl e i.size i.bytes (mkRow (zl.map cA1)) (opd x) (opd y)) := fun ρ T w a k f hO h => by
  obtain ⟨u, w', h1, h2⟩ := msl_ok (P := P) (w := w) hu hi hz hzl hsz h0 h1 h2 (hO x (by simp [Op.operands])) (hO y (by simp [Op.operands])) h
  exact ⟨u, w', v_run h1, h2⟩
theorem i_mslk (t : TypeId) (x y : Operand) {e : Nat} {i : TypeInfo} {κ : PK} (hu : P.underlying t = some (.slice e)) (hi : P.info? e = some i) (hz : i.zero = some (pkV κ 0)) (h0 : 0 < i.bytes) (h1 : i.size = 1) :
    NwOk P ⟨dst, .makeSlice t x y, ty, pos, af, gd⟩ (mslk κ e i.bytes (opd x) (opd y)) := fun ρ T w a k f hO h => by
  obtain ⟨u, w', h1, h2⟩ := mslk_ok (P := P) (w := w) hu hi hz h0 h1 (hO x (by simp [Op.operands])) (hO y (by simp [Op.operands])) h
  exact ⟨u, w', v_run h1, h2⟩
theorem lo_of {ρ : Pl} {T : Tm} {a : Act} {lo : Option Operand} (h : ∀ x, lo = some x → Rv ρ (opd x T) (a.eval x)) : OptR ρ (loA lo) T (lo.map a.eval) := by
  cases lo with
  | none => exact .inl ⟨rfl, rfl⟩
  | some x => exact .inr ⟨_, rfl, h x rfl⟩
theorem hi_of {ρ : Pl} {T : Tm} {a : Act} {hi : Option Operand} (h : ∀ x, hi = some x → Rv ρ (opd x T) (a.eval x)) : OptH ρ T (optA hi) (hi.map a.eval) := by
  cases hi with
  | none => exact rfl
  | some x => exact ⟨_, rfl, h x rfl⟩
theorem i_sl (t : TypeId) (x : Operand) (lo hi mx : Option Operand) {e : E} (he : ∀ (ρ : Pl) (T : Tm) (σ : St) (w : World) (a : Act) (v : AV), RS ρ σ w → Rv ρ (opd x T) (a.eval x) → OptR ρ (loA lo) T (lo.map a.eval) → OptH ρ T (optA hi) (hi.map a.eval) → OptH ρ T (optA mx) (mx.map a.eval) → e T σ = .ok v →
    ∃ z, (Instr.sliceAt t (a.eval x) (lo.map a.eval) (hi.map a.eval) (mx.map a.eval)).run P w = .ok z w ∧ Rv ρ v z) : EvOk P ⟨dst, .slice t x lo hi mx, ty, pos, af, gd⟩ e := fun ρ T σ w a v hO hs h => by
  obtain ⟨z, h1, h2⟩ := he ρ T σ w a v hs (hO x (by simp [Op.operands])) (lo_of fun y hy => hO y (by subst hy; simp [Op.operands])) (hi_of fun y hy => hO y (by subst hy; simp [Op.operands])) (hi_of fun y hy => hO y (by subst hy; simp [Op.operands])) h
  exact ⟨z, v_run h1, h2⟩
theorem slI_ok (t : TypeId) (x : Operand) (lo hi mx : Option Operand) : EvOk P ⟨dst, .slice t x lo hi mx, ty, pos, af, gd⟩ (slI P t (opd x) lo hi mx) := by
  unfold slI
  split
  · next hu => exact i_sl t x lo hi none fun ρ T σ w a v hs ox ol oh om h => sl_s_ok hu ox ol oh h
  · next hu =>
    split
    · next hn => exact i_sl t x lo hi none fun ρ T σ w a v hs ox ol oh om h => sl_l_ok hu hn ox ol oh h
    · exact noE_ok
  · next hu =>
    split
    · next hn => exact i_sl t x lo _ _ fun ρ T σ w a v hs ox ol oh om h => sl_m_ok hu hn ox ol oh om h
    · exact noE_ok
  · next hu =>
    split
    · next ha =>
      split
      · next hn =>
        split
        · next hN => exact i_sl t x lo hi none fun ρ T σ w a v hs ox ol oh om h => sl_a_ok hs (.inr ⟨_, hu, ha⟩) hn hN ox ol oh h
        · exact noE_ok
      · exact noE_ok
    · exact noE_ok
  · next hu =>
    split
    · next hn =>
      split
      · next hN => exact i_sl t x lo hi none fun ρ T σ w a v hs ox ol oh om h => sl_a_ok hs (.inl hu) hn hN ox ol oh h
      · exact noE_ok
    · exact noE_ok
  · exact noE_ok
theorem i_fad (t : TypeId) (x : Operand) (i : Nat) {fs : Array Field} {fd : Field} {n : Nat} (hu : P.underlying t = some (.struct fs)) (hf : fs[i]? = some fd) (hn : sizeA P fd.type = some n) (h0 : n ≠ 0) : EvOk P ⟨dst, .fieldAddr t x i, ty, pos, af, gd⟩ (fad fd.offset (opd x)) := fun ρ T σ w a v hO _ h => by
  obtain ⟨z, h1, h2⟩ := fad_ok (w := w) hu hf hn h0 (hO x (by simp [Op.operands])) h
  exact ⟨z, v_run h1, h2⟩
theorem i_fld1 (t : TypeId) (x : Operand) (i : Nat) {fs : Array Field} {fd : Field} (hu : P.underlying t = some (.struct fs)) (hf : fs[i]? = some fd) (ha : isAggA P fd.type = some false) : EvOk P ⟨dst, .field t x i, ty, pos, af, gd⟩ (fld1 fd.offset (opd x)) := fun ρ T σ w a v hO _ h => by
  obtain ⟨z, h1, h2⟩ := fld1_ok (w := w) hu hf ha (hO x (by simp [Op.operands])) h
  exact ⟨z, v_run h1, h2⟩
theorem i_fldN (t : TypeId) (x : Operand) (i : Nat) {fs : Array Field} {fd : Field} {n : Nat} (hu : P.underlying t = some (.struct fs)) (hf : fs[i]? = some fd) (ha : isAggA P fd.type = some true) (hn : sizeA P fd.type = some n) : EvOk P ⟨dst, .field t x i, ty, pos, af, gd⟩ (fldN fd.offset n (opd x)) := fun ρ T σ w a v hO _ h => by
  obtain ⟨z, h1, h2⟩ := fldN_ok (w := w) hu hf ha hn (hO x (by simp [Op.operands])) h
  exact ⟨z, v_run h1, h2⟩
theorem i_iad (t : TypeId) (x y : Operand) {e : E} (he : ∀ (ρ : Pl) (T : Tm) (σ : St) (w : World) (v : AV) (X Y : Value), Rv ρ (opd x T) X → Rv ρ (opd y T) Y → e T σ = .ok v → ∃ z, (Instr.indexAt t X Y).run P w = .ok z w ∧ Rv ρ v z) : EvOk P ⟨dst, .indexAddr t x y, ty, pos, af, gd⟩ e := fun ρ T σ w a v hO hs h => by
  obtain ⟨z, h1, h2⟩ := he ρ T σ w v _ _ (hO x (by simp [Op.operands])) (hO y (by simp [Op.operands])) h
  exact ⟨z, v_run h1, h2⟩
theorem iadI_ok (t : TypeId) (x y : Operand) : EvOk P ⟨dst, .indexAddr t x y, ty, pos, af, gd⟩ (iadI P t (opd x) (opd y)) := by
  unfold iadI
  split
  · next hu =>
    split
    · next hn => exact i_iad t x y fun ρ T σ w v X Y ox oy h => iad_s_ok (σ := σ) hu hn ox oy h
    · exact noE_ok
  · next hu =>
    split
    · next hn => exact i_iad t x y fun ρ T σ w v X Y ox oy h => iad_a_ok (σ := σ) hu hn ox oy h
    · exact noE_ok
  · exact noE_ok
theorem i_ix (t : TypeId) (x y : Operand) {e : E} (he : ∀ (ρ : Pl) (T : Tm) (σ : St) (w : World) (v : AV) (X Y : Value), Rv ρ (opd x T) X → Rv ρ (opd y T) Y → e T σ = .ok v → ∃ z, (Instr.index t X Y).run P w = .ok z w ∧ Rv ρ v z) : EvOk P ⟨dst, .index t x y, ty, pos, af, gd⟩ e := fun ρ T σ w a v hO hs h => by
  obtain ⟨z, h1, h2⟩ := he ρ T σ w v _ _ (hO x (by simp [Op.operands])) (hO y (by simp [Op.operands])) h
  exact ⟨z, v_run h1, h2⟩
theorem ixI_ok (t : TypeId) (x y : Operand) : EvOk P ⟨dst, .index t x y, ty, pos, af, gd⟩ (ixI P t (opd x) (opd y)) := by
  unfold ixI
  split
  · next hu => exact i_ix t x y fun ρ T σ w v X Y ox oy h => ix_s_ok (σ := σ) hu ox oy h
  · next hu =>
    split
    · next ha hn => exact i_ix t x y fun ρ T σ w v X Y ox oy h => ix_aN_ok (σ := σ) hu hn ha ox oy h
    · next ha hn => exact i_ix t x y fun ρ T σ w v X Y ox oy h => ix_a1_ok (σ := σ) hu hn ha ox oy h
    · exact noE_ok
  · exact noE_ok
theorem keyA_ok {kt : TypeId} {ks : Bool} (h : keyA P kt = some ks) : P.underlying kt = some (kdOf ks) := by
  unfold keyA at h
  split at h
  · next hu => injection h with h; subst h; exact hu
  · next hu => injection h with h; subst h; exact hu
  · cases h
theorem zvalA_ok {t : TypeId} {z : AV} {ρ : Pl} (h : zvalA P t = some z) : ∃ Z, Rv ρ z Z ∧ ∀ w, (zeroValue t).run P w = .ok Z w := by
  unfold zvalA at h
  split at h
  · next i _ hi =>
    split at h
    · next cs hz =>
      split at h
      · next hc =>
        injection h with h; subst h
        obtain ⟨h1, h2⟩ := Bool.and_eq_true_iff.1 hc
        have hr := mkRow_of (ρ := ρ) (cs := cs.toList) (by simpa using h1) h2
        exact ⟨.agg cs, ⟨cs.toList, by simp, rfl, hr.1, hr.2.1, hr.2.2⟩, fun w => by simp [zeroValue, typeInfo, hi, hz]⟩
      · cases h
    · cases h
  · next i _ hi =>
    split at h
    · next z hz =>
      injection h with h; subst h
      exact ⟨z, cA1_ok z, fun w => by simp [zeroValue, typeInfo, hi, hz]⟩
    · cases h
  · cases h
theorem i_lkp (t : TypeId) (x y : Operand) (ok : Bool) {kt el : TypeId} {ks : Bool} {z : AV} (hu : P.underlying t = some (.map kt el)) (hk : keyA P kt = some ks) (hz : zvalA P el = some z) : EvOk P ⟨dst, .lookup t x y ok, ty, pos, af, gd⟩ (lkp ks z (opd x) (opd y) ok) := fun ρ T σ w a v hO hs h => by
  obtain ⟨Z, hZ, hr⟩ := zvalA_ok (ρ := ρ) hz
  obtain ⟨u, h1, h2⟩ := lkp_ok hs hu (keyA_ok hk) hZ hr (hO x (by simp [Op.operands])) (hO y (by simp [Op.operands])) h
  exact ⟨u, v_run h1, h2⟩
theorem i_mup (t : TypeId) (x y z : Operand) {kt el : TypeId} {ks : Bool} (hu : P.underlying t = some (.map kt el)) (hk : keyA P kt = some ks) : ExOk P ⟨dst, .mapUpdate t x y z, ty, pos, af, gd⟩ (mup ks (opd x) (opd y) (opd z)) := fun ρ T σ w a v σ' hO hs h K Q hK => by
  obtain ⟨h1, w', h2, h3⟩ := mup_ok hs hu (keyA_ok hk) (hO x (by simp [Op.operands])) (hO y (by simp [Op.operands])) (hO z (by simp [Op.operands])) h
  exact ex_skip (o := ⟨dst, .mapUpdate t x y z, ty, pos, af, gd⟩) ⟨h1, w', u_run h2, h3⟩ hK
theorem i_rng (t : TypeId) (x : Operand) (hu : P.underlying t = some .string) : NwOk P ⟨dst, .range t x, ty, pos, af, gd⟩ (rng (opd x)) := fun ρ T w a k f hO h => by
  obtain ⟨u, w', h1, h2⟩ := rng_ok (P := P) (w := w) hu (hO x (by simp [Op.operands])) h
  exact ⟨u, w', v_run h1, h2⟩
theorem i_nxt (x : Operand) : ExOk P ⟨dst, .next x true, ty, pos, af, gd⟩ (nxt (opd x)) := fun ρ T σ w a v σ' hO hs h K Q hK => by
  obtain ⟨u, w', h1, h2, h3, h4⟩ := nxt_ok (P := P) (d := ty) hs (hO x (by simp [Op.operands])) h
  exact ex_value (o := ⟨dst, .next x true, ty, pos, af, gd⟩) (v_run h1) ⟨ρ, h2, h3, h4⟩ hK
theorem i_tas (x : Operand) (xt t : TypeId) (ok : Bool) {d : TypeDesc} {z : AV} (hu : P.underlying t = some d) (hd : ∀ ms, d ≠ .interface ms) (hz : zvalA P t = some z) : EvOk P ⟨dst, .typeAssert x xt t ok, ty, pos, af, gd⟩ (tas t z ok (opd x)) := fun ρ T σ w a v hO _ h => by
  obtain ⟨Z, hZ, hr⟩ := zvalA_ok (ρ := ρ) hz
  obtain ⟨u, h1, h2⟩ := tas_ok (w := w) (xt := xt) hu hd hZ hr (hO x (by simp [Op.operands])) h
  exact ⟨u, v_run h1, h2⟩
theorem i_ext (x : Operand) (i : Nat) : EvOk P ⟨dst, .extract x i, ty, pos, af, gd⟩ (ext i (opd x)) := fun ρ T σ w a v hO _ h => by
  obtain ⟨u, h1, h2⟩ := ext_ok (P := P) (w := w) (hO x (by simp [Op.operands])) h
  exact ⟨u, v_run h1, h2⟩
end
end Go.Proofs.YtaogloegiffioaaGreatDoor
namespace Go.Proofs.YtaogloegiffioaaGreatDoor
def TA (ρ : Pl) (T : Tm) (args : Array Value) : Prop := ∀ i, i < 256 → Rv ρ (getN i T) (args.getD i undef)
theorem z16_get (d : D16) : z16.get d = undefA := by cases d <;> rfl
theorem getN_enter (l : AVs) (i : Nat) (hi : i < 256) : getN i (enter l) = if i < 8 then nth l i else undefA := by
  rcases Nat.lt_or_ge i 16 with h | h
  · have : i = 0 ∨ i = 1 ∨ i = 2 ∨ i = 3 ∨ i = 4 ∨ i = 5 ∨ i = 6 ∨ i = 7 ∨ i = 8 ∨ i = 9 ∨ i = 10 ∨ i = 11 ∨ i = 12 ∨ i = 13 ∨ i = 14 ∨ i = 15 := by omega
    rcases this with h | h | h | h | h | h | h | h | h | h | h | h | h | h | h | h <;> subst h <;> rfl
  · rw [if_neg (by omega)]
    have hd : T2.get (dig (Nat.div i 16)) (enter l) = z16 := by
      have : i / 16 = 1 ∨ i / 16 = 2 ∨ i / 16 = 3 ∨ i / 16 = 4 ∨ i / 16 = 5 ∨ i / 16 = 6 ∨ i / 16 = 7 ∨ i / 16 = 8 ∨ i / 16 = 9 ∨ i / 16 = 10 ∨ i / 16 = 11 ∨ i / 16 = 12 ∨ i / 16 = 13 ∨ i / 16 = 14 ∨ i / 16 = 15 := by omega
      rcases this with h | h | h | h | h | h | h | h | h | h | h | h | h | h | h <;> (rw [show Nat.div i 16 = _ from h]; rfl)
    unfold getN
    rw [hd, z16_get]
theorem TA_enter {ρ : Pl} {l : AVs} {xs : List Value} (h : Rvs ρ l xs) (hl : l.len ≤ 8) : TA ρ (enter l) xs.toArray := fun i hi => by
  rw [getN_enter l i hi]
  have hlen := Rvs.len h
  rcases Rvs.nth h i with ⟨v, x, h1, h2, h3⟩ | ⟨h1, h2⟩
  · have hlt : i < xs.length := by
      rcases Nat.lt_or_ge i xs.length with g | g
      · exact g
      · rw [List.getElem?_eq_none g] at h2; cases h2
    rw [if_pos (by omega)]
    have e1 : nth l i = v := by unfold nth; rw [h1]
    have e2 : xs.toArray.getD i undef = x := by
      rw [Array.getD_eq_getD_getElem?, List.getElem?_toArray, h2]; rfl
    rw [e1, e2]; exact h3
  · have e1 : nth l i = undefA := by unfold nth; rw [h1]
    have e2 : xs.toArray.getD i undef = undef := by
      rw [Array.getD_eq_getD_getElem?, List.getElem?_toArray, h2]; rfl
    rw [e2]
    split
    · rw [e1]; rfl
    · rfl
theorem argsT_enter {a : List Operand} {f : Tm → Tm} (h : argsT a = some f) (T : Tm) : f T = enter (argsS a T) ∧ (argsS a T).len ≤ 8 := by
  unfold argsT at h
  split at h <;> first | (injection h with h; subst h; exact ⟨rfl, Nat.le_of_ble_eq_true rfl⟩) | cases h
def CallOkV (P : Program) (f : FuncId) (F : Fu) : Prop := ∀ (ρ : Pl) (σ : St) (w : World) (T : Tm) (args : Array Value) (v : AV) (σ' : St), TA ρ T args → RS ρ σ w → F T σ = .ok v σ' →
  ∀ (o : Oper) (a : Act) (K : Act → World → Prop) (Q : Exit → Act → World → Prop), (∀ (ρ' : Pl) (X : Value) (w' : World), Rv ρ' v X → RS ρ' σ' w' → Step σ ρ w σ' ρ' w' → K (a.put o.dst X) w') → o.upon P a K Q ((callFunc f args).run P w)
def CallOk (P : Program) (f : FuncId) (F : Fu) : Prop := ∀ (ρ : Pl) (σ : St) (w : World) (T : Tm) (args : Array Value) (v : AV) (σ' : St), (∀ fn, P.funcs[f]? = some fn → args.size = fn.params.size) → TA ρ T args → RS ρ σ w → F T σ = .ok v σ' →
  ∀ (o : Oper) (a : Act) (K : Act → World → Prop) (Q : Exit → Act → World → Prop), (∀ (ρ' : Pl) (X : Value) (w' : World), Rv ρ' v X → RS ρ' σ' w' → Step σ ρ w σ' ρ' w' → K (a.put o.dst X) w') → o.upon P a K Q ((callFunc f args).run P w)
theorem CallOkV.ok {P : Program} {f : FuncId} {F : Fu} (h : CallOkV P f F) : CallOk P f F := fun ρ σ w T args v σ' _ => h ρ σ w T args v σ'
theorem CallOkV.no {P : Program} {f : FuncId} {F : Fu} (h : ∀ T σ, F T σ = .no) : CallOkV P f F := fun ρ σ w T args v σ' _ _ e => by rw [h] at e; cases e
def zeroIs : PK → Value → Bool
  | .bool, .bool false => true
  | .u8, .int .u8 (.ofNat 0) => true
  | .i64, .int .i64 (.ofNat 0) => true
  | .u64, .int .u64 (.ofNat 0) => true
  | .i32, .int .i32 (.ofNat 0) => true
  | .u32, .int .u32 (.ofNat 0) => true
  | _, _ => false
theorem zeroIs_ok {κ : PK} {z : Value} (h : zeroIs κ z = true) : z = pkV κ 0 := by
  unfold zeroIs at h
  split at h <;> first | rfl | cases h
def sliceOk (P : Program) (e : TypeId) : Bool := match P.info? e with
  | some i => match i.zero with
    | some z => match pkA P e with
      | some κ => zeroIs κ z && (i.size == 1 && Nat.ble 1 i.bytes)
      | none => z.cells.size == i.size && (Nat.ble 1 i.size && Nat.ble i.size i.bytes)
    | none => false
  | none => false
theorem sliceOk_pk {P : Program} {e : TypeId} {κ : PK} (h : sliceOk P e = true) (hk : pkA P e = some κ) : ∃ i, P.info? e = some i ∧ i.zero = some (pkV κ 0) ∧ i.size = 1 ∧ 0 < i.bytes := by
  unfold sliceOk at h
  split at h
  · next i hi =>
    split at h
    · next z hz =>
      rw [hk] at h
      obtain ⟨h1, h2⟩ := Bool.and_eq_true_iff.1 h
      obtain ⟨h2, h3⟩ := Bool.and_eq_true_iff.1 h2
      exact ⟨i, hi, by rw [hz, zeroIs_ok h1], by simpa using h2, Nat.le_of_ble_eq_true h3⟩
    · cases h
  · cases h
theorem sliceOk_row {P : Program} {e : TypeId} (h : sliceOk P e = true) (hk : pkA P e = none) : ∃ i z, P.info? e = some i ∧ i.zero = some z ∧ z.cells.size = i.size ∧ 0 < i.size ∧ i.size ≤ i.bytes := by
  unfold sliceOk at h
  split at h
  · next i hi =>
    split at h
    · next z hz =>
      rw [hk] at h
      obtain ⟨h1, h2⟩ := Bool.and_eq_true_iff.1 h
      obtain ⟨h2, h3⟩ := Bool.and_eq_true_iff.1 h2
      exact ⟨i, z, hi, hz, by simpa using h1, Nat.le_of_ble_eq_true h2, Nat.le_of_ble_eq_true h3⟩
    · cases h
  · cases h
theorem pkA_agg {P : Program} {e : TypeId} {κ : PK} (h : pkA P e = some κ) : isAggA P e = some false := by
  unfold pkA at h
  unfold isAggA
  split at h <;> first | (rename_i hu; rw [hu]; done) | (rename_i hu; rw [hu]) | cases h
theorem sizeA_of {P : Program} {e : TypeId} {i : TypeInfo} (h : P.info? e = some i) : sizeA P e = some i.size := by simp [sizeA, h]
theorem bytesA_of {P : Program} {e : TypeId} {i : TypeInfo} (h : P.info? e = some i) {b : Nat} (hb : bytesA P e = some b) : b = i.bytes := by
  unfold bytesA at hb
  rw [h] at hb
  simp only at hb
  split at hb
  · injection hb with hb; exact hb.symm
  · cases hb
theorem zrowA_of {P : Program} {e : TypeId} {i : TypeInfo} {z : Value} (h : P.info? e = some i) (hz : i.zero = some z) {l : List Value} (hl : zrowA P e = some l) : l = z.cells.toList ∧ z.cells.toList.length ≤ 4096 ∧ z.cells.toList.all oneV = true := by
  obtain ⟨z', i', h1, h2, h3, h4, h5, _⟩ := zrow_run hl
  rw [h] at h1; cases h1
  rw [hz] at h2; cases h2
  subst h3
  exact ⟨rfl, h4, h5⟩
theorem arr1 {α β : Type} {a : Array α} {x : α} {f : α → β} (h : a.toList = [x]) : a.map f = #[f x] := by apply Array.ext'; simp [h]
theorem arr2 {α β : Type} {a : Array α} {x y : α} {f : α → β} (h : a.toList = [x, y]) : a.map f = #[f x, f y] := by apply Array.ext'; simp [h]
section
variable {P : Program} {dst : Option Tmp} {ty : TypeId} {pos : String} {af : Array Edge} {gd : Option (Nat × Bool)}
theorem bi_run {c : Call} {b : Builtin} (hc : c.callee = .builtin b) (a : Act) (w : World) : (execOp a.eval ⟨dst, .call c, ty, pos, af, gd⟩).run P w = (builtin b c.argTypes ty (c.args.map fun | .const _ => true | _ => false) (c.args.map a.eval)).run P w := by
  simp [execOp, resolve, hc, invoke]
  rfl
theorem appI_ok {t tx : TypeId} {s x : G} {ρ : Pl} {T : Tm} {σ σ' : St} {w : World} {v : AV} {S X : Value} (hok : ∀ e, P.underlying t = some (.slice e) → sliceOk P e = true) (hs : RS ρ σ w) (hx : Rv ρ (s T) S) (hy : Rv ρ (x T) X) (h : appI P t tx s x T σ = .ok v σ') :
    ∃ u w', (Builtin.append_ #[t, tx] ty #[S, X]).run P w = .ok u w' ∧ RRes σ ρ w v σ' u w' := by
  obtain ⟨e0, he⟩ : ∃ e, appI P t tx s x = e := ⟨_, rfl⟩
  rw [he] at h
  unfold appI at he
  split at he
  · next e hu =>
    have hok := hok e hu
    split at he
    · next k b hk hb =>
      obtain ⟨i, hi, hz, h1, h2⟩ := sliceOk_pk hok hk
      have hzs : (pkV k 0).cells.size = i.size := by rw [one_cells (pkV_oneCell k 0), h1]; rfl
      rw [bytesA_of hi hb] at he
      split at he
      · next hk2 =>
        split at he
        · subst he; exact apS_ok hs hu hi hz hzs h1 h2 hk2 hx hy h
        · subst he; cases h
      · next hk2 => subst he; exact apKz_ok hs hu hi hz h1 h2 hk2 hx hy h
      · next hk2 => subst he; exact apK_ok hs hu hi hz hzs h1 h2 hk2 hx hy h
      · subst he; cases h
    · next b hk hb =>
      obtain ⟨i, z, hi, hz, h1, h2, h3⟩ := sliceOk_row hok hk
      split at he
      · next n zl hn hzl =>
        rw [bytesA_of hi hb] at he
        rw [sizeA_of hi] at hn; injection hn with hn; subst hn
        obtain ⟨rfl, z1, z2⟩ := zrowA_of hi hz hzl
        split at he
        · next hk2 => subst he; exact apRz_ok hs hu hi hz h1 (by omega) h2 z1 z2 hk2 hx hy h
        · next hk2 => subst he; exact apR_ok hs hu hi hz h1 (by omega) hk2 hx hy h
        · subst he; cases h
      · subst he; cases h
    · subst he; cases h
  · subst he; cases h
def elemOk (P : Program) (t : TypeId) : Bool := match P.underlying t with
  | some (.slice e) => sliceOk P e
  | _ => true
theorem elemOk_ok {t e : TypeId} (h : elemOk P t = true) (hu : P.underlying t = some (.slice e)) : sliceOk P e = true := by
  unfold elemOk at h; rw [hu] at h; exact h
def biOk (P : Program) (b : Builtin) (ts : Array TypeId) : Bool := match b with
  | .append => ts.size == 2 && elemOk P (ts.getD 0 0)
  | .copy => ts.size == 2 && elemOk P (ts.getD 0 0)
  | .clear => ts.size == 1 && elemOk P (ts.getD 0 0)
  | _ => Nat.ble 1 ts.size
theorem ts2 {ts : Array TypeId} (h : ts.size = 2) : ts = #[ts.getD 0 0, ts.getD 1 0] := by
  apply Array.ext
  · simpa using h
  · intro i h1 h2
    have : i = 0 ∨ i = 1 := by omega
    rcases this with rfl | rfl <;> simp [Array.getD, h]
theorem ts1 {ts : Array TypeId} (h : ts.size = 1) : ts = #[ts.getD 0 0] := by
  apply Array.ext
  · simpa using h
  · intro i h1 h2
    have : i = 0 := by omega
    subst this; simp [Array.getD, h]
theorem ts0 {ts : Array TypeId} (h : Nat.ble 1 ts.size = true) : ts[0]? = some (ts.getD 0 0) := by
  have h : 1 ≤ ts.size := Nat.le_of_ble_eq_true h
  rw [Array.getD_eq_getD_getElem?, Array.getElem?_eq_getElem (by omega)]; rfl
theorem ev_bi {c : Call} {b : Builtin} (hc : c.callee = .builtin b) {e : E} {s : Array Value → Sem Value} (hs : ∀ (cs : Array Bool) (vs : Array Value) w, (builtin b c.argTypes ty cs vs).run P w = (do pure (.value (← s vs)) : Sem Next).run P w)
    (he : ∀ (ρ : Pl) (T : Tm) (σ : St) (w : World) (a : Act) (v : AV), Slots ρ T a (.call c) → RS ρ σ w → e T σ = .ok v → ∃ X, (s (c.args.map a.eval)).run P w = .ok X w ∧ Rv ρ v X) : EvOk P ⟨dst, .call c, ty, pos, af, gd⟩ e := fun ρ T σ w a v hO hσ h => by
  obtain ⟨X, h1, h2⟩ := he ρ T σ w a v hO hσ h
  refine ⟨X, ?_, h2⟩
  rw [bi_run hc, hs]
  exact v_run h1
theorem ex_bi {c : Call} {b : Builtin} (hc : c.callee = .builtin b) {e : R} {s : Array Value → Sem Value} (hs : ∀ (cs : Array Bool) (vs : Array Value) w, (builtin b c.argTypes ty cs vs).run P w = (do pure (.value (← s vs)) : Sem Next).run P w)
    (he : ∀ (ρ : Pl) (T : Tm) (σ : St) (w : World) (a : Act) (v : AV) (σ' : St), Slots ρ T a (.call c) → RS ρ σ w → e T σ = .ok v σ' → ∃ X w', (s (c.args.map a.eval)).run P w = .ok X w' ∧ RRes σ ρ w v σ' X w') : ExOk P ⟨dst, .call c, ty, pos, af, gd⟩ e := fun ρ T σ w a v σ' hO hσ h K Q hK => by
  obtain ⟨X, w', h1, h2⟩ := he ρ T σ w a v σ' hO hσ h
  refine ex_value (o := ⟨dst, .call c, ty, pos, af, gd⟩) (X := X) (w' := w') ?_ h2 hK
  rw [bi_run hc, hs]
  exact v_run h1
theorem bi_slot {c : Call} {b : Builtin} (hc : c.callee = .builtin b) {ρ : Pl} {T : Tm} {a : Act} (hO : Slots ρ T a (.call c)) {x : Operand} (hx : x ∈ c.args.toList) : Rv ρ (opd x T) (a.eval x) :=
  hO x (by simp [Op.operands, Call.operands, hc]; simpa using hx)
theorem lenI_ok {t : TypeId} {x : Operand} {ρ : Pl} {T : Tm} {σ : St} {w : World} {v : AV} {X : Value} {ts : Array TypeId} (ht : ts[0]? = some t) (hs : RS ρ σ w) (hx : Rv ρ (opd x T) X) (h : lenI P t (opd x) T σ = .ok v) : ∃ z, (Builtin.len_ ts ty #[X]).run P w = .ok z w ∧ Rv ρ v z := by
  obtain ⟨e0, he⟩ : ∃ e, lenI P t (opd x) = e := ⟨_, rfl⟩
  rw [he] at h
  unfold lenI at he
  split at he
  · next hu =>
    split at he
    · next hn => subst he; injection h with h; subst h; exact lenC_ok ht (.inl hu) hn
    · subst he; cases h
  · next hu =>
    split at he
    · next hu2 =>
      split at he
      · next hn => subst he; injection h with h; subst h; exact lenC_ok ht (.inr ⟨_, hu, hu2⟩) hn
      · subst he; cases h
    · subst he; cases h
  · next hu => subst he; exact len_s_ok ht hu hx h
  · next hu => subst he; exact len_l_ok ht hu hx h
  · next hu => subst he; exact len_m_ok hs ht hu hx h
  · subst he; cases h
theorem biI_ok {c : Call} {b : Builtin} (hc : c.callee = .builtin b) (hok : biOk P b c.argTypes = true) : IOk P ⟨dst, .call c, ty, pos, af, gd⟩ (biI P b (c.argTypes.getD 0 0) (c.argTypes.getD 1 0) c.args.toList) := by
  unfold biI
  split
  · next x hx =>
    refine ev_bi hc (s := fun vs => Builtin.len_ c.argTypes ty vs) (fun _ _ _ => rfl) fun ρ T σ w a v hO hs h => ?_
    rw [arr1 hx]
    exact lenI_ok (ts0 hok) hs (bi_slot hc hO (by rw [hx]; simp)) h
  · next x hx =>
    split
    · next e hu =>
      refine ev_bi hc (s := fun vs => Builtin.cap_ c.argTypes ty vs) (fun _ _ _ => rfl) fun ρ T σ w a v hO hs h => ?_
      rw [arr1 hx]
      exact capA_ok (ts0 hok) hu (bi_slot hc hO (by rw [hx]; simp)) h
    · exact noI_ok
  · next s x hx =>
    obtain ⟨h2, h3⟩ := Bool.and_eq_true_iff.1 hok
    refine ex_bi hc (s := fun vs => Builtin.append_ c.argTypes ty vs) (fun _ _ _ => rfl) fun ρ T σ w a v σ' hO hs h => ?_
    rw [arr2 hx, ts2 (ts := c.argTypes) (by simpa using h2)]
    exact appI_ok (fun e hu => elemOk_ok h3 hu) hs (bi_slot hc hO (by rw [hx]; simp)) (bi_slot hc hO (by rw [hx]; simp)) h
  · next d s hx =>
    obtain ⟨h2, h3⟩ := Bool.and_eq_true_iff.1 hok
    split
    · next e hu =>
      have hso := elemOk_ok h3 hu
      split
      · next k hk =>
        obtain ⟨i, hi, hz, h1, h4⟩ := sliceOk_pk hso hk
        refine ex_bi hc (s := fun vs => Builtin.copy_ c.argTypes ty vs) (fun _ _ _ => rfl) fun ρ T σ w a v σ' hO hs h => ?_
        rw [arr2 hx, ts2 (ts := c.argTypes) (by simpa using h2)]
        exact cpK_ok hs hu (by rw [sizeA_of hi, h1]) (bi_slot hc hO (by rw [hx]; simp)) (bi_slot hc hO (by rw [hx]; simp)) h
      · split
        · next n hn =>
          refine ex_bi hc (s := fun vs => Builtin.copy_ c.argTypes ty vs) (fun _ _ _ => rfl) fun ρ T σ w a v σ' hO hs h => ?_
          rw [arr2 hx, ts2 (ts := c.argTypes) (by simpa using h2)]
          exact cpR_ok hs hu hn (bi_slot hc hO (by rw [hx]; simp)) (bi_slot hc hO (by rw [hx]; simp)) h
        · exact noI_ok
    · exact noI_ok
  · next s hx =>
    obtain ⟨h2, h3⟩ := Bool.and_eq_true_iff.1 hok
    split
    · next e hu =>
      have hso := elemOk_ok h3 hu
      split
      · next n z hn hzl =>
        refine ex_bi hc (s := fun vs => Builtin.clear_ c.argTypes ty vs) (fun _ _ _ => rfl) fun ρ T σ w a v σ' hO hs h => ?_
        rw [arr1 hx, ts1 (ts := c.argTypes) (by simpa using h2)]
        obtain ⟨zv, i, hi, hz, rfl, z1, z2, _⟩ := zrow_run hzl
        rw [sizeA_of hi] at hn; injection hn with hn; subst hn
        have hb : zv.cells.size = i.size ∧ 0 < i.size := by
          cases hk : pkA P e with
          | none =>
            obtain ⟨i', z', hi', hz', h5, h6, _⟩ := sliceOk_row hso hk
            rw [hi] at hi'; cases hi'
            rw [hz] at hz'; cases hz'
            exact ⟨h5, h6⟩
          | some κ =>
            obtain ⟨i', hi', hz', h5, h6⟩ := sliceOk_pk hso hk
            rw [hi] at hi'; cases hi'
            rw [hz] at hz'; cases hz'
            exact ⟨by rw [one_cells (pkV_oneCell κ 0), h5]; rfl, by omega⟩
        exact clrR_ok hs hu hi hz hzl (by simpa using hb.1) hb.2 (bi_slot hc hO (by rw [hx]; simp)) h
      · exact noI_ok
    · exact noI_ok
  · next m k hx =>
    split
    · next kt el hu =>
      split
      · next ks hk =>
        refine ex_bi hc (s := fun vs => Builtin.delete_ c.argTypes ty vs) (fun _ _ _ => rfl) fun ρ T σ w a v σ' hO hs h => ?_
        rw [arr2 hx]
        obtain ⟨rfl, w', h1, h2, h3⟩ := dlt_ok (d := ty) hs (ts0 hok) hu (keyA_ok hk) (bi_slot hc hO (x := m) (by rw [hx]; simp)) (bi_slot hc hO (x := k) (by rw [hx]; simp)) h
        exact ⟨_, w', h1, ρ, rfl, h2, h3⟩
      · exact noI_ok
    · exact noI_ok
  · next x y hx =>
    refine ev_bi hc (s := fun vs => Builtin.min_ c.argTypes ty vs) (fun _ _ _ => rfl) fun ρ T σ w a v hO hs h => ?_
    rw [arr2 hx]
    exact min_ok (bi_slot hc hO (by rw [hx]; simp)) (bi_slot hc hO (by rw [hx]; simp)) h
  · next x y hx =>
    refine ev_bi hc (s := fun vs => Builtin.max_ c.argTypes ty vs) (fun _ _ _ => rfl) fun ρ T σ w a v hO hs h => ?_
    rw [arr2 hx]
    exact max_ok (bi_slot hc hO (by rw [hx]; simp)) (bi_slot hc hO (by rw [hx]; simp)) h
  · exact noI_ok
theorem i_call {c : Call} {f : FuncId} {F : Fu} {l : Tm → Tm} (hc : c.callee = .value (.func f)) (hl : argsT c.args.toList = some l) (hF : CallOk P f F) (hz : ∀ fn, P.funcs[f]? = some fn → c.args.size = fn.params.size) : ExOk P ⟨dst, .call c, ty, pos, af, gd⟩ (cl F l) := fun ρ T σ w a v σ' hO hs h K Q hK => by
  obtain ⟨h1, h2⟩ := argsT_enter hl T
  have hv := argsS_ok (ρ := ρ) (T := T) (a := a) c.args.toList fun x hx => hO x (by simp [Op.operands, Call.operands]; exact .inr (by simpa using hx))
  have hTA : TA ρ (l T) (c.args.map a.eval) := by
    rw [h1]
    have := TA_enter hv h2
    rwa [show (c.args.toList.map a.eval).toArray = c.args.map a.eval by apply Array.ext'; simp] at this
  have := hF ρ σ w (l T) (c.args.map a.eval) v σ' (fun fn hf => by rw [Array.size_map]; exact hz fn hf) hTA hs h ⟨dst, .call c, ty, pos, af, gd⟩ a K Q hK
  unfold Oper.wp
  rw [show (execOp a.eval ⟨dst, .call c, ty, pos, af, gd⟩).run P w = (callFunc f (c.args.map a.eval)).run P w by simp [execOp, resolve, hc, Act.eval, Deferred.ofValue, invoke]]
  exact this
theorem i_callV {c : Call} {x : Operand} {tab : Nat → Fu} (hc : c.callee = .value x) (hF : ∀ f, CallOkV P f (tab f)) : ExOk P ⟨dst, .call c, ty, pos, af, gd⟩ (clV tab (opd x) (argsS c.args.toList)) := fun ρ T σ w a v σ' hO hs h K Q hK => by
  have hv := argsS_ok (ρ := ρ) (T := T) (a := a) c.args.toList fun x hx => hO x (by simp [Op.operands, Call.operands]; exact .inr (by simpa using hx))
  have hX := hO x (by simp [Op.operands, Call.operands, hc])
  unfold clV at h
  obtain ⟨f, caps, e1, h⟩ := onFn_some h RA.ne
  rw [e1] at hX
  obtain ⟨cs, h1, h2⟩ := hX
  obtain ⟨hlen, h⟩ := boolRA_ok h
  have hTA := TA_enter (Rvs.app hv h1) (Nat.le_of_ble_eq_true hlen)
  have := hF f ρ σ w _ _ v σ' hTA hs h ⟨dst, .call c, ty, pos, af, gd⟩ a K Q hK
  unfold Oper.wp
  rw [show (execOp a.eval ⟨dst, .call c, ty, pos, af, gd⟩).run P w = (callFunc f (c.args.toList.map a.eval ++ cs).toArray).run P w by
    simp [execOp, resolve, hc, h2, Deferred.ofValue, invoke]
    congr 2
    apply Array.ext'
    simp]
  exact this
end
end Go.Proofs.YtaogloegiffioaaGreatDoor
namespace Go.Proofs.YtaogloegiffioaaGreatDoor
def okOp (P : Program) (o : Oper) : Bool := match o.op with
  | .build t ps => match P.underlying t, zrowA P t with
    | some (.struct fs), some z => fieldsOk P fs.toList z.length
    | some (.array _ e), some z => match sizeA P e with
      | some n => ps.toList.all (fun p => p.1 * n + n ≤ z.length) && (isAggA P e != some false || n == 1)
      | none => true
    | _, _ => true
  | .buildSlice t len ps => match P.underlying t with
    | some (.slice e) => match pkA P e with
      | some _ => sliceOk P e && (Nat.ble len 4096 && decide (ps.toList.map (·.1) = List.range len))
      | none => match sizeA P e, zrowA P e with
        | some n, some z => (z.length == n && (Nat.ble 1 n && Nat.ble (len * n) 4096)) && (ps.toList.all (fun p => p.1 * n + n ≤ len * n) && (isAggA P e != some false || n == 1))
        | _, _ => true
    | _ => true
  | .binOp _ t _ _ _ => eqOk P t
  | .makeSlice t _ _ => elemOk P t
  | .fieldAddr t _ f => match P.underlying t with
    | some (.struct fs) => match fs[f]? with
      | some fd => match sizeA P fd.type with
        | some n => n != 0
        | none => false
      | none => true
    | _ => true
  | .call c => match c.callee with
    | .builtin b => biOk P b c.argTypes
    | .value (.func f) => match P.funcs[f]? with
      | some fn => c.args.size == fn.params.size
      | none => false
    | _ => true
  | _ => true
section
variable {P : Program} {tab : FuncId → Fu} {vtab : Nat → Nat → Fu}
theorem op_ok (hF : ∀ f, CallOk P f (tab f)) (hV : ∀ n f, CallOkV P f (vtab n f)) (o : Oper) (hok : okOp P o = true) : IOk P o (denI P tab vtab o) := by
  obtain ⟨dst, op, ty, pos, af, gd⟩ := o
  unfold denI
  split <;> rename_i ho <;> first | exact noI_ok | (simp only at ho; subst ho)
  · exact i_move _
  · exact i_assign _
  · exact i_pick _ _ _
  · split
    · next hz => exact i_alloc _ hz
    · exact noI_ok
  · split
    · exact i_boxN _ _ _
    · exact i_box1 _ _
    · exact noI_ok
  · split
    · next hu hz =>
      simp only [okOp, hu, hz] at hok
      split
      · next hl => exact i_bld_s _ _ hu hz hl hok
      · exact noI_ok
    · next hu hz =>
      split
      · next hn =>
        simp only [okOp, hu, hz, hn] at hok
        obtain ⟨k1, k2⟩ := Bool.and_eq_true_iff.1 hok
        split
        · next hl => exact i_bld_a _ _ hu hz hn hl k1 k2
        · exact noI_ok
      · exact noI_ok
    · exact noI_ok
  · split
    · next hu =>
      split
      · next hk =>
        simp only [okOp, hu, hk] at hok
        obtain ⟨k1, k2⟩ := Bool.and_eq_true_iff.1 hok
        obtain ⟨k2, k3⟩ := Bool.and_eq_true_iff.1 k2
        obtain ⟨i, hi, hz, h1, _⟩ := sliceOk_pk k1 hk
        split
        · next hl => exact i_bslk _ _ _ hu hi hz h1 hl (pkA_agg hk) (Nat.le_of_ble_eq_true k2) (of_decide_eq_true k3)
        · exact noI_ok
      · next hk =>
        split
        · next hn hz =>
          simp only [okOp, hu, hk, hn, hz] at hok
          obtain ⟨k1, k2⟩ := Bool.and_eq_true_iff.1 hok
          obtain ⟨k1, k3⟩ := Bool.and_eq_true_iff.1 k1
          obtain ⟨k3, k4⟩ := Bool.and_eq_true_iff.1 k3
          obtain ⟨k2, k5⟩ := Bool.and_eq_true_iff.1 k2
          split
          · next hl => exact i_bsl _ _ _ hu hz hn hl (by simpa using k1) (Nat.le_of_ble_eq_true k3) (Nat.le_of_ble_eq_true k4) k2 k5
          · exact noI_ok
        · exact noI_ok
    · exact noI_ok
  · split
    · next ha hn => exact i_ldN _ _ ha hn
    · next ha => exact i_ld1 _ _ ha
    · exact noI_ok
  · split
    · next ha hn => exact i_stN _ _ _ hn
    · next ha hn => exact i_st1 _ _ _ hn
    · exact noI_ok
  · exact i_nilc _
  · exact i_bin _ _ _ _ _ fun ρ T σ v X Y hx hy h => binI_ok _ hok hx hy h
  · exact i_un _ _ _ fun ρ T σ v X hx h => unI_ok _ hx h
  · exact cvI_ok _ _ _
  · split
    · exact noI_ok
    · next hd hu => exact i_mkI _ _ hu (fun ms e => hd ms e)
    · exact noI_ok
  · split
    · next hf => exact i_mkF _ _ _ hf
    · exact noI_ok
  · exact i_mmp _
  · split
    · next hu =>
      have hso := elemOk_ok (show elemOk P _ = true from hok) hu
      split
      · next hk hb =>
        obtain ⟨i, hi, hz, h1, h2⟩ := sliceOk_pk hso hk
        rw [bytesA_of hi hb]
        exact i_mslk _ _ _ hu hi hz h2 h1
      · next hk hb =>
        obtain ⟨i, z, hi, hz, h1, h2, h3⟩ := sliceOk_row hso hk
        split
        · next hn hzl =>
          rw [bytesA_of hi hb]
          rw [sizeA_of hi] at hn; injection hn with hn; subst hn
          obtain ⟨e1, _, _⟩ := zrowA_of hi hz hzl
          exact i_msl _ _ _ hu hi hz hzl (by rw [e1]; simpa using h1) (by omega) h2 h3
        · exact noI_ok
      · exact noI_ok
    · exact noI_ok
  · exact slI_ok _ _ _ _ _
  · split
    · next hu =>
      split
      · next hf =>
        simp only [okOp, hu, hf] at hok
        split at hok
        · next hn => exact i_fad _ _ _ hu hf hn (by simpa using hok)
        · cases hok
      · exact noI_ok
    · exact noI_ok
  · split
    · next hu =>
      split
      · next hf =>
        split
        · next ha hn => exact i_fldN _ _ _ hu hf ha hn
        · next ha => exact i_fld1 _ _ _ hu hf ha
        · exact noI_ok
      · exact noI_ok
    · exact noI_ok
  · exact iadI_ok _ _ _
  · exact ixI_ok _ _ _
  · split
    · next hu =>
      split
      · next hk hz => exact i_lkp _ _ _ _ hu hk hz
      · exact noI_ok
    · exact noI_ok
  · split
    · next hu =>
      split
      · next hk => exact i_mup _ _ _ _ hu hk
      · exact noI_ok
    · exact noI_ok
  · split
    · next hu => exact i_rng _ _ hu
    · exact noI_ok
  · exact i_nxt _
  · split
    · exact noI_ok
    · next hd hu hz => exact i_tas _ _ _ _ hu (fun ms e => hd ms e) hz
    · exact noI_ok
  · exact i_ext _ _
  · unfold callI
    split
    · next hc =>
      split
      · next hl =>
        refine i_call hc hl (hF _) fun fn hf => ?_
        simp only [okOp, hc, hf] at hok
        simpa using hok
      · exact noI_ok
    · next hx hc => exact i_callV hc (hV _)
    · next hc =>
      simp only [okOp, hc] at hok
      exact biI_ok hc hok
    · exact noI_ok
end
noncomputable def wantB (x : AV) (w : Bool) : Option Bool := match x with
  | .b g => some (eqBB g w)
  | .lit (.bool _) => none
  | _ => some false
noncomputable def wantsA (ops : Array Oper) (o : Oper) (T : Tm) : Option Bool := match o.guard with
  | none => some true
  | some (j, b) => match (ops[j]?).bind (·.dst) with
    | some d => wantB (getN d T) b
    | none => none
theorem evg_eq (g : G) (w : Bool) (e : E) (s : Tm → AV → Tm) (k : C) (T : Tm) (σ : St) : evg g w e s k T σ = match wantB (g T) w with
    | some false => k (s T undefA) σ
    | some true => ev e s k T σ
    | none => .no := by
  unfold evg
  generalize g T = x
  cases x with
  | b t => simp only [wantB]; cases h : eqBB t w <;> simp only [onB, h] <;> rfl
  | lit v => cases v <;> rfl
  | _ => rfl
theorem nwg_eq (g : G) (w : Bool) (e : N) (s : Tm → AV → Tm) (k : C) (T : Tm) (σ : St) : nwg g w e s k T σ = match wantB (g T) w with
    | some false => k (s T undefA) σ
    | some true => nw e s k T σ
    | none => .no := by
  unfold nwg
  generalize g T = x
  cases x with
  | b t => simp only [wantB]; cases h : eqBB t w <;> simp only [onB, h] <;> rfl
  | lit v => cases v <;> rfl
  | _ => rfl
theorem exg_eq (g : G) (w : Bool) (e : R) (s : Tm → AV → Tm) (k : C) (T : Tm) (σ : St) : exg g w e s k T σ = match wantB (g T) w with
    | some false => k (s T undefA) σ
    | some true => ex e s k T σ
    | none => .no := by
  unfold exg
  generalize g T = x
  cases x with
  | b t => simp only [wantB]; cases h : eqBB t w <;> simp only [onB, h] <;> rfl
  | lit v => cases v <;> rfl
  | _ => rfl
theorem ckg_eq (c : G) (w : Bool) (e : E) (g : G) (k : C) (T : Tm) (σ : St) : ckg c w e g k T σ = match wantB (c T) w with
    | some false => k T σ
    | some true => ck e g k T σ
    | none => .no := by
  unfold ckg
  generalize c T = x
  cases x with
  | b t => simp only [wantB]; cases h : eqBB t w <;> simp only [onB, h] <;> rfl
  | lit v => cases v <;> rfl
  | _ => rfl
section
variable (P : Program) (tab : FuncId → Fu) (vtab : Nat → Nat → Fu) (ops : Array Oper)
noncomputable def StepV (o : Oper) (T : Tm) (σ : St) (v : AV) (σ' : St) : Prop :=
  (wantsA ops o T = some false ∧ v = undefA ∧ σ' = σ) ∨ (wantsA ops o T = some true ∧ match denI P tab vtab o with
    | .ev e => e T σ = .ok v ∧ σ' = σ
    | .nw e => ∃ k f, e T = .ok k f ∧ notLast σ.nx = true ∧ v = f σ.nx ∧ σ' = σ.new k
    | .ex e => e T σ = .ok v σ')
variable {P tab vtab ops}
theorem ev_step {e : E} {s : Tm → AV → Tm} {k : C} {T : Tm} {σ : St} {r : RC} (h : ev e s k T σ = r) (hr : r ≠ .no) : ∃ v, e T σ = .ok v ∧ k (s T v) σ = r := by
  unfold ev at h
  cases he : e T σ with
  | no => rw [he] at h; exact absurd h.symm hr
  | ok v => rw [he] at h; exact ⟨v, rfl, h⟩
theorem ex_step {e : R} {s : Tm → AV → Tm} {k : C} {T : Tm} {σ : St} {r : RC} (h : ex e s k T σ = r) (hr : r ≠ .no) : ∃ v σ', e T σ = .ok v σ' ∧ k (s T v) σ' = r := by
  unfold ex at h
  cases he : e T σ with
  | no => rw [he] at h; exact absurd h.symm hr
  | ok v σ' => rw [he] at h; exact ⟨v, σ', rfl, h⟩
theorem nw_step {e : N} {s : Tm → AV → Tm} {k : C} {T : Tm} {σ : St} {r : RC} (h : nw e s k T σ = r) (hr : r ≠ .no) : ∃ b f, e T = .ok b f ∧ notLast σ.nx = true ∧ k (s T (f σ.nx)) (σ.new b) = r := by
  unfold nw at h
  cases he : e T with
  | no => rw [he] at h; exact absurd h.symm hr
  | ok b f =>
    rw [he] at h
    cases hl : notLast σ.nx with
    | false => simp only [hl] at h; exact absurd h.symm hr
    | true => simp only [hl] at h; exact ⟨b, f, rfl, rfl, h⟩
theorem step1_ok {o : Oper} {k : C} {T : Tm} {σ : St} {r : RC} (h : step1 P tab vtab ops o k T σ = r) (hr : r ≠ .no) : ∃ v σ', StepV P tab vtab ops o T σ v σ' ∧ k (setA o.dst T v) σ' = r := by
  unfold step1 at h
  cases hg : o.guard with
  | none =>
    have hw : wantsA ops o T = some true := by unfold wantsA; rw [hg]
    rw [hg] at h; simp only at h
    cases hd : denI P tab vtab o with
    | ev e => rw [hd] at h; obtain ⟨v, h1, h2⟩ := ev_step h hr; exact ⟨v, σ, .inr ⟨hw, by rw [hd]; exact ⟨h1, rfl⟩⟩, h2⟩
    | nw e => rw [hd] at h; obtain ⟨b, f, h1, h2, h3⟩ := nw_step h hr; exact ⟨_, _, .inr ⟨hw, by rw [hd]; exact ⟨b, f, h1, h2, rfl, rfl⟩⟩, h3⟩
    | ex e => rw [hd] at h; obtain ⟨v, σ', h1, h2⟩ := ex_step h hr; exact ⟨v, σ', .inr ⟨hw, by rw [hd]; exact h1⟩, h2⟩
  | some p =>
    obtain ⟨j, b⟩ := p
    rw [hg] at h; simp only at h
    cases hb : (ops[j]?).bind (·.dst) with
    | none => rw [hb] at h; exact absurd h.symm hr
    | some d =>
      have hw : wantsA ops o T = wantB (getN d T) b := by unfold wantsA; rw [hg]; simp only [hb]
      rw [hb] at h; simp only at h
      cases hd : denI P tab vtab o with
      | ev e =>
        rw [hd] at h; simp only [evg_eq] at h
        split at h
        · next hw' => exact ⟨undefA, σ, .inl ⟨hw.trans hw', rfl, rfl⟩, h⟩
        · next hw' => obtain ⟨v, h1, h2⟩ := ev_step h hr; exact ⟨v, σ, .inr ⟨hw.trans hw', by rw [hd]; exact ⟨h1, rfl⟩⟩, h2⟩
        · exact absurd h.symm hr
      | nw e =>
        rw [hd] at h; simp only [nwg_eq] at h
        split at h
        · next hw' => exact ⟨undefA, σ, .inl ⟨hw.trans hw', rfl, rfl⟩, h⟩
        · next hw' => obtain ⟨b, f, h1, h2, h3⟩ := nw_step h hr; exact ⟨_, _, .inr ⟨hw.trans hw', by rw [hd]; exact ⟨b, f, h1, h2, rfl, rfl⟩⟩, h3⟩
        · exact absurd h.symm hr
      | ex e =>
        rw [hd] at h; simp only [exg_eq] at h
        split at h
        · next hw' => exact ⟨undefA, σ, .inl ⟨hw.trans hw', rfl, rfl⟩, h⟩
        · next hw' => obtain ⟨v, σ', h1, h2⟩ := ex_step h hr; exact ⟨v, σ', .inr ⟨hw.trans hw', by rw [hd]; exact h1⟩, h2⟩
        · exact absurd h.symm hr
def LookV (P : Program) (tab : FuncId → Fu) (vtab : Nat → Nat → Fu) (ops : Array Oper) (o : Oper) (T : Tm) (σ : St) : Prop :=
  ∃ d e, o.dst = some d ∧ denI P tab vtab o = .ev e ∧ ((wantsA ops o T = some false) ∨ (wantsA ops o T = some true ∧ ∃ v, e T σ = .ok v ∧ avEq v (getN d T) = true))
theorem ck_step {e : E} {g : G} {k : C} {T : Tm} {σ : St} {r : RC} (h : ck e g k T σ = r) (hr : r ≠ .no) : ∃ v, e T σ = .ok v ∧ avEq v (g T) = true ∧ k T σ = r := by
  unfold ck at h
  cases he : e T σ with
  | no => rw [he] at h; exact absurd h.symm hr
  | ok v =>
    rw [he] at h
    cases hq : avEq v (g T) with
    | false => simp only [hq] at h; exact absurd h.symm hr
    | true => simp only [hq] at h; exact ⟨v, rfl, hq, h⟩
theorem look2_ok {o : Oper} {k : C} {T : Tm} {σ : St} {r : RC} (h : look2 P tab vtab ops o k T σ = r) (hr : r ≠ .no) : LookV P tab vtab ops o T σ ∧ k T σ = r := by
  unfold look2 at h
  rcases hdst : o.dst with _ | d
  · rw [hdst] at h; exact absurd h.symm hr
  · rcases hd : denI P tab vtab o with e | e | e
    case nw => rw [hdst, hd] at h; exact absurd h.symm hr
    case ex => rw [hdst, hd] at h; exact absurd h.symm hr
    rw [hdst, hd] at h
    simp only at h
    cases hg : o.guard with
    | none =>
      rw [hg] at h; simp only at h
      obtain ⟨v, h1, h2, h3⟩ := ck_step h hr
      exact ⟨⟨d, e, hdst, hd, .inr ⟨by unfold wantsA; rw [hg], v, h1, h2⟩⟩, h3⟩
    | some p =>
      obtain ⟨j, b⟩ := p
      rw [hg] at h; simp only at h
      cases hb : (ops[j]?).bind (·.dst) with
      | none => rw [hb] at h; exact absurd h.symm hr
      | some g =>
        have hw : wantsA ops o T = wantB (getN g T) b := by unfold wantsA; rw [hg]; simp only [hb]
        rw [hb] at h; simp only [ckg_eq] at h
        split at h
        · next hw' => exact ⟨⟨d, e, hdst, hd, .inl (hw.trans hw')⟩, h⟩
        · next hw' =>
          obtain ⟨v, h1, h2, h3⟩ := ck_step h hr
          exact ⟨⟨d, e, hdst, hd, .inr ⟨hw.trans hw', v, h1, h2⟩⟩, h3⟩
        · exact absurd h.symm hr
inductive RunP (P : Program) (tab : FuncId → Fu) (vtab : Nat → Nat → Fu) (ops : Array Oper) : List PI → Tm → St → Tm → St → Prop
  | nil {T : Tm} {σ : St} : RunP P tab vtab ops [] T σ T σ
  | op {i : Nat} {l : List PI} {o : Oper} {T T2 : Tm} {σ σ' σ2 : St} {v : AV} (ho : ops[i]? = some o) (hs : StepV P tab vtab ops o T σ v σ') (h : RunP P tab vtab ops l (setA o.dst T v) σ' T2 σ2) : RunP P tab vtab ops (.op i :: l) T σ T2 σ2
  | ck {i : Nat} {l : List PI} {o : Oper} {T T2 : Tm} {σ σ2 : St} (ho : ops[i]? = some o) (hs : LookV P tab vtab ops o T σ) (h : RunP P tab vtab ops l T σ T2 σ2) : RunP P tab vtab ops (.ck i :: l) T σ T2 σ2
theorem chainP_run {k : C} {r : RC} (hr : r ≠ .no) : ∀ (l : List PI) (T : Tm) (σ : St), chainP P tab vtab ops l k T σ = r → ∃ T2 σ2, RunP P tab vtab ops l T σ T2 σ2 ∧ k T2 σ2 = r
  | [], T, σ, h => ⟨T, σ, .nil, h⟩
  | .op i :: l, T, σ, h => by
    unfold chainP at h
    cases ho : ops[i]? with
    | none => rw [ho] at h; exact absurd h.symm hr
    | some o =>
      rw [ho] at h
      obtain ⟨v, σ', h1, h2⟩ := step1_ok h hr
      obtain ⟨T2, σ2, h3, h4⟩ := chainP_run hr l _ _ h2
      exact ⟨T2, σ2, .op ho h1 h3, h4⟩
  | .ck i :: l, T, σ, h => by
    unfold chainP at h
    cases ho : ops[i]? with
    | none => rw [ho] at h; exact absurd h.symm hr
    | some o =>
      rw [ho] at h
      obtain ⟨h1, h2⟩ := look2_ok h hr
      obtain ⟨T2, σ2, h3, h4⟩ := chainP_run hr l _ _ h2
      exact ⟨T2, σ2, .ck ho h1 h3, h4⟩
end
end Go.Proofs.YtaogloegiffioaaGreatDoor
namespace Go.Proofs.YtaogloegiffioaaGreatDoor
theorem cnt_set : ∀ (l : List Bool) (i : Nat), l[i]? = some false → (l.set i true).count false + 1 = l.count false
  | [], i, h => by simp at h
  | b :: l, 0, h => by simp at h; subst h; simp
  | b :: l, i + 1, h => by
    have := cnt_set l i (by simpa using h)
    simp only [List.set_cons_succ, List.count_cons]
    omega
section
variable {P : Program} {ops : Array Oper} {Q : Exit → Act → World → Prop} {md : Region.Mode}
theorem ready_false {listed : Array Bool} (hz : listed.size = ops.size) {i : Nat} (hi : i ∈ Region.ready md ops listed) : listed.toList[i]? = some false := by
  obtain ⟨h0, o, ho, _⟩ := mem_ready.1 hi
  have hlt : i < ops.size := (Array.getElem?_eq_some_iff.1 ho).1
  have hlt' : i < listed.size := by omega
  simp [Array.getD, hlt'] at h0
  simp [hlt', h0]
theorem wpAny_inv (I : Array Bool → Act → World → Prop)
    (hstep : ∀ listed a w, listed.size = ops.size → I listed a w → ∀ i ∈ Region.ready md ops listed, wpOp P ops Q i (I (listed.setIfInBounds i true)) a w)
    (hend : ∀ listed a w, listed.size = ops.size → I listed a w → Region.ready md ops listed = [] → Q .normal a w) :
    ∀ (fuel : Nat) (listed : Array Bool) (a : Act) (w : World), listed.size = ops.size → listed.toList.count false ≤ fuel → I listed a w → wpAny P md ops Q fuel listed a w
  | 0, listed, a, w, hz, hc, h => by
    have hr : Region.ready md ops listed = [] := by
      cases hr : Region.ready md ops listed with
      | nil => rfl
      | cons i l =>
        have := ready_false hz (md := md) (i := i) (by rw [hr]; simp)
        have := List.count_pos_iff.2 (List.mem_of_getElem? this)
        omega
    exact ⟨hr, hend listed a w hz h hr⟩
  | fuel + 1, listed, a, w, hz, hc, h => by
    refine ⟨fun hr => hend listed a w hz h hr, fun i hi => wpOp_mono (fun a' w' h' => ?_) (hstep listed a w hz h i hi)⟩
    refine wpAny_inv I hstep hend fuel _ a' w' (by simpa using hz) ?_ h'
    have := cnt_set listed.toList i (ready_false hz hi)
    rw [Array.toList_setIfInBounds]
    omega
end
def dstOf (ops : Array Oper) (i : Nat) : Option Nat := (ops[i]?).bind (·.dst)
def okP (n : Nat) (ex rd : Nat → Bool) (anc : Nat → Nat) (ckb : Nat → Nat → Bool) : List PI → Nat → List Nat → Option Nat → Bool
  | [], D, S, _ => (List.range n).all (fun i => mem i D) && S.isEmpty
  | .ck i :: l, D, S, E => mem i D && (ckb i D && okP n ex rd anc ckb l D (S.filter (· != i)) E)
  | .op i :: l, D, S, E => S.isEmpty && (Nat.blt i n && (!mem i D && (Nat.land (anc i) D == anc i && ((match E with
    | none => true
    | some e => mem e (anc i)) && (match ex i with
    | true => okP n ex rd anc ckb l (D ||| 2 ^ i) ((List.range n).filter fun j => mem j D && (rd j && !mem j (anc i))) (some i)
    | false => okP n ex rd anc ckb l (D ||| 2 ^ i) S E)))))
theorem mem_or {j i D : Nat} : mem j (D ||| 2 ^ i) = (mem j D || decide (i = j)) := by
  unfold mem
  rw [Nat.testBit_or, Nat.testBit_two_pow]
theorem mem_land {x D : Nat} (h : (Nat.land x D == x) = true) {j : Nat} (hj : mem j x = true) : mem j D = true := by
  have h : x &&& D = x := by simpa using h
  unfold mem at *
  rw [← h, Nat.testBit_and] at hj
  exact (Bool.and_eq_true_iff.1 hj).2
def Stab (e : E) : Prop := ∀ (T : Tm) (σ : St) (k : Blk) (v : AV), σ.h.at σ.nx = .none → e T σ = .ok v → e T (σ.new k) = .ok v
structure RegF (P : Program) (tab : FuncId → Fu) (vtab : Nat → Nat → Fu) (ops : Array Oper) (nt : Nat) (ex rd : Nat → Bool) (anc : Nat → Nat) (ckb : Nat → Nat → Bool) : Prop where
  ntl : nt ≤ 256
  anc1 : ∀ (i : Nat) (o : Oper), ops[i]? = some o → ∀ j, mem j (anc i) = true → ∃ e ∈ o.after, Region.binds .any e = true ∧ (j = e.on ∨ mem j (anc e.on) = true)
  back : ∀ (i : Nat) (o : Oper), ops[i]? = some o → ∀ e ∈ o.after, Region.binds .any e = true → e.on < i
  dlt : ∀ i d, dstOf ops i = some d → d < nt
  llt : ∀ (i : Nat) (o : Oper), ops[i]? = some o → ∀ t ∈ o.looksAt ops, t < 256
  dne : ∀ i j d, dstOf ops i = some d → dstOf ops j = some d → i = j
  ord : ∀ (i : Nat) (o : Oper), ops[i]? = some o → ∀ t ∈ o.looksAt ops, ∀ j, dstOf ops j = some t → j ≠ i → mem j (anc i) = true ∨ mem i (anc j) = true
  gd : ∀ (i : Nat) (o : Oper) (j : Nat) (b : Bool), ops[i]? = some o → o.guard = some (j, b) → mem j (anc i) = true
  kx : ∀ (i : Nat) (o : Oper), ops[i]? = some o → (ex i = true ↔ ∃ e, denI P tab vtab o = .ex e)
  pu : ∀ (i : Nat) (o : Oper) (e : E), ops[i]? = some o → denI P tab vtab o = .ev e → rd i = false → ∀ T σ σ', e T σ = e T σ'
  so : ∀ (i : Nat) (o : Oper), ops[i]? = some o → IOk P o (denI P tab vtab o)
  sb : ∀ (i : Nat) (o : Oper) (e : E), ops[i]? = some o → denI P tab vtab o = .ev e → Stab e
  cb : ∀ (i : Nat) (o : Oper) (D : Nat), ops[i]? = some o → ckb i D = true → ∀ t ∈ o.looksAt ops, ∀ j, dstOf ops j = some t → mem j D = true → mem j (anc i) = true
  av : ∀ v u, avEq v u = true → ∀ (ρ : Pl) X, Rv ρ v X → Rv ρ u X
section
variable {P : Program} {tab : FuncId → Fu} {vtab : Nat → Nat → Fu} {ops : Array Oper} {nt : Nat} {ex rd : Nat → Bool} {anc : Nat → Nat} {ckb : Nat → Nat → Bool}
variable (P tab vtab ops anc) in
def Agree (T0 : Tm) (i : Nat) (o : Oper) (Ti T : Tm) : Prop := ∀ t ∈ o.looksAt ops, ((∃ j, dstOf ops j = some t ∧ mem j (anc i) = true) → getN t Ti = getN t T) ∧ ((∀ j, dstOf ops j = some t → mem j (anc i) = false) → getN t Ti = getN t T0)
variable (P tab vtab ops anc) in
def PendV (T0 : Tm) (ρ : Pl) (PB : Nat → Bid → Prop) (T : Tm) (σ : St) (i : Nat) (o : Oper) : Prop := ∃ Ti, Agree ops anc T0 i o Ti T ∧ match denI P tab vtab o with
  | .ev e => ∃ v, e Ti σ = .ok v ∧ ∀ d, o.dst = some d → ∀ (ρ : Pl) X, Rv ρ v X → Rv ρ (getN d T) X
  | .nw e => ∃ k f b, e Ti = .ok k f ∧ PB i b ∧ (∀ d, o.dst = some d → getN d T = f b) ∧ σ.h.at b = k ∧ ρ b = none
  | .ex _ => False
variable (P tab vtab ops anc) in
def Pend (T0 : Tm) (ρ : Pl) (PB : Nat → Bid → Prop) (S : List Nat) (T : Tm) (σ : St) (i : Nat) (o : Oper) : Prop := ∃ b, wantsA ops o T = some b ∧ (b = false → ∀ d, o.dst = some d → getN d T = undefA) ∧ (b = true → i ∉ S → PendV P tab vtab ops anc T0 ρ PB T σ i o)
variable (P tab vtab ops anc nt ex) in
structure Inv (T0 : Tm) (σ0 : St) (ρ0 : Pl) (w0 : World) (a0 : Act) (ρ : Pl) (PB : Nat → Bid → Prop) (D : Nat) (S : List Nat) (T : Tm) (σ : St) (L : Array Bool) (a : Act) (w : World) : Prop where
  rs : RS ρ σ w
  st : Step σ0 ρ0 w0 σ ρ w
  le : nt ≤ a.tmps.size
  df : a.defers = a0.defers
  new : ∀ t, t < 256 → (∃ j, L.getD j false = true ∧ dstOf ops j = some t) → Rv ρ (getN t T) (a.tmps.getD t undef)
  old : ∀ t, t < 256 → (∀ j, L.getD j false = true → dstOf ops j ≠ some t) → Rv ρ (getN t T0) (a.tmps.getD t undef)
  can : ∀ t, t < 256 → (∀ j, mem j D = true → dstOf ops j ≠ some t) → getN t T = getN t T0
  sub : ∀ j, L.getD j false = true → mem j D = true
  cl : ∀ i, L.getD i false = true → ∀ j, mem j (anc i) = true → L.getD j false = true
  cd : ∀ i, mem i D = true → ∀ j, mem j (anc i) = true → mem j D = true
  ef : ∀ i, mem i D = true → ex i = true → L.getD i false = true
  lt : ∀ i, mem i D = true → i < ops.size
  inj : ∀ i j b, PB i b → PB j b → i = j
  bnd : ∀ i b, PB i b → b.num < σ.nx.num ∧ σ0.nx.num ≤ b.num ∧ mem i D = true
  pend : ∀ (i : Nat) (o : Oper), ops[i]? = some o → mem i D = true → L.getD i false = false → Pend P tab vtab ops anc T0 ρ PB S T σ i o
theorem getN_setA {o : Option Tmp} {T : Tm} {v : AV} {t : Nat} (ht : t < 256) (ho : ∀ d, o = some d → d < 256 ∧ d ≠ t) : getN t (setA o T v) = getN t T := by
  cases o with
  | none => rfl
  | some d =>
    obtain ⟨h1, h2⟩ := ho d rfl
    show getN t (setN d T v) = _
    rw [getN_setN T d t v h1 ht, if_neg (fun h => h2 h.symm)]
theorem getN_setA_self {d : Tmp} {T : Tm} {v : AV} (hd : d < 256) : getN d (setA (some d) T v) = v := by
  show getN d (setN d T v) = _
  rw [getN_setN T d d v hd hd, if_pos rfl]
theorem put_size (a : Act) (d : Option Tmp) (v : Value) : (a.put d v).tmps.size = a.tmps.size := by cases d <;> simp [Act.put]
theorem put_defers (a : Act) (d : Option Tmp) (v : Value) : (a.put d v).defers = a.defers := by cases d <;> rfl
theorem put_get_ne {a : Act} {o : Option Tmp} {v : Value} {t : Nat} (h : o ≠ some t) : (a.put o v).tmps.getD t undef = a.tmps.getD t undef := by
  cases o with
  | none => rfl
  | some d =>
    have hne : d ≠ t := fun e => h (by rw [e])
    simp [Act.put, Array.getD_eq_getD_getElem?, Array.getElem?_setIfInBounds_ne hne]
theorem put_get_self {a : Act} {d : Tmp} {v : Value} (h : d < a.tmps.size) : (a.put (some d) v).tmps.getD d undef = v := by
  simp [Act.put, Array.getD_eq_getD_getElem?, h]
theorem looks_tmp {o : Oper} {t : Nat} (h : Operand.tmp t ∈ o.op.operands) : t ∈ o.looksAt ops := by
  unfold Oper.looksAt
  exact List.mem_append_left _ (List.mem_filterMap.2 ⟨.tmp t, by simpa using h, rfl⟩)
theorem looks_guard {o : Oper} {j d : Nat} {b : Bool} (hg : o.guard = some (j, b)) (hd : dstOf ops j = some d) : d ∈ o.looksAt ops := by
  unfold Oper.looksAt
  refine List.mem_append_right _ ?_
  unfold dstOf at hd
  rw [hg]; simp only [hd]; simp
theorem slots_of_looks {ρ : Pl} {T : Tm} {a : Act} {o : Oper} (h : ∀ t ∈ o.looksAt ops, Rv ρ (getN t T) (a.tmps.getD t undef)) : Slots ρ T a o.op :=
  fun x hx => opd_ok x fun t ht => h t (looks_tmp (by rw [← ht]; exact hx))
theorem Rv_bool {ρ : Pl} {x : AV} {X : Value} {w b : Bool} (hx : Rv ρ x X) (h : wantB x w = some b) : (∃ g, X = .bool g ∧ (g == w) = b) ∨ ((∀ g, X ≠ .bool g) ∧ b = false) := by
  cases x with
  | b g => left; injection h with h; exact ⟨g, hx, by rw [← h, eqBB_eq]⟩
  | lit v =>
    right
    rw [show X = v from hx]
    cases v <;> simp [wantB] at h <;> exact ⟨fun g e => (by cases e), h⟩
  | i64 n => right; injection h with h; exact ⟨fun g e => (by rw [hx.1] at e; cases e), h.symm⟩
  | u64 n => right; injection h with h; exact ⟨fun g e => (by rw [hx.1] at e; cases e), h.symm⟩
  | u8 n => right; injection h with h; exact ⟨fun g e => (by rw [hx.1] at e; cases e), h.symm⟩
  | u32 n => right; injection h with h; exact ⟨fun g e => (by rw [hx.1] at e; cases e), h.symm⟩
  | i32 n => right; injection h with h; exact ⟨fun g e => (by rw [hx.1] at e; cases e), h.symm⟩
  | s l n => right; injection h with h; exact ⟨fun g e => (by rw [hx.1] at e; cases e), h.symm⟩
  | p b o => right; injection h with h; obtain ⟨L, _, e⟩ := hx; exact ⟨fun g e' => (by rw [e] at e'; cases e'), h.symm⟩
  | sl b o l c w kn => right; injection h with h; obtain ⟨L, c', a, _, e, _⟩ := hx; exact ⟨fun g e' => (by rw [e] at e'; cases e'), h.symm⟩
  | fn f caps => right; injection h with h; obtain ⟨cs, _, e⟩ := hx; exact ⟨fun g e' => (by rw [e] at e'; cases e'), h.symm⟩
  | mp b => right; injection h with h; obtain ⟨L, _, e⟩ := hx; exact ⟨fun g e' => (by rw [e] at e'; cases e'), h.symm⟩
  | iface t v => right; injection h with h; obtain ⟨L, _, e⟩ := hx; exact ⟨fun g e' => (by rw [e] at e'; cases e'), h.symm⟩
  | agg n r => right; injection h with h; obtain ⟨L, e, _⟩ := hx; exact ⟨fun g e' => (by rw [e] at e'; cases e'), h.symm⟩
  | tup l => right; injection h with h; obtain ⟨L, _, e⟩ := hx; exact ⟨fun g e' => (by rw [e] at e'; cases e'), h.symm⟩
theorem wanted_ok {ρ : Pl} {T : Tm} {a : Act} {o : Oper} {b : Bool} (h : wantsA ops o T = some b) (hs : ∀ j b d, o.guard = some (j, b) → dstOf ops j = some d → Rv ρ (getN d T) (a.tmps.getD d undef)) : Region.wanted o (yielded ops a.tmps) = b := by
  unfold wantsA at h
  unfold Region.wanted
  cases hg : o.guard with
  | none => rw [hg] at h; injection h with h
  | some p =>
    obtain ⟨j, w⟩ := p
    rw [hg] at h; simp only at h ⊢
    cases hd : (ops[j]?).bind (·.dst) with
    | none => rw [hd] at h; cases h
    | some d =>
      rw [hd] at h; simp only at h
      have hv := hs j w d hg hd
      have hy : yielded ops a.tmps j = match a.tmps[d]? with
        | some (.bool b) => some b
        | _ => none := by unfold yielded; rw [hd]; rfl
      rw [hy]
      rw [Array.getD_eq_getD_getElem?] at hv
      rcases Rv_bool hv h with ⟨g, e, hb⟩ | ⟨hn, rfl⟩
      · cases ht : a.tmps[d]? with
        | none => rw [ht] at e; cases e
        | some X =>
          rw [ht] at e
          rw [show X = .bool g from e]
          rw [← hb]; simp
      · cases ht : a.tmps[d]? with
        | none => rfl
        | some X =>
          rw [ht] at hn
          cases X <;> first | rfl | exact absurd rfl (hn _)
theorem RS.sleep {ρ : Pl} {σ : St} {w : World} (h : RS ρ σ w) (hl : notLast σ.nx = true) (k : Blk) : RS ρ (σ.new k) w := by
  have hnx : (σ.new k).nx.num = σ.nx.num + 1 := Bid.next_num hl
  have hat : ∀ b L, ρ b = some L → (σ.new k).h.at b = σ.h.at b := fun b L e => by
    rw [St.new_at, if_neg (fun hb => by subst hb; rw [h.fresh] at e; cases e)]
  refine ⟨fun b L e => by rw [hat b L e]; exact h.blk b L e, fun b b' L L' r hne h1 h2 => ?_, fun b L e => ?_, fun b hb => ?_⟩
  · obtain ⟨e1, u1⟩ := h1
    obtain ⟨e2, u2⟩ := h2
    rw [hat b L e1] at u1
    rw [hat b' L' e2] at u2
    exact h.inj b b' L L' r hne ⟨e1, u1⟩ ⟨e2, u2⟩
  · have := h.dom b L e; omega
  · rw [hnx] at hb
    rw [St.new_at, if_neg (fun e => by subst e; omega)]
    exact h.free b (by omega)
theorem Step.sleep {σ0 σ : St} {ρ0 ρ : Pl} {w0 w : World} (h : Step σ0 ρ0 w0 σ ρ w) (hr : RS ρ σ w) (hl : notLast σ.nx = true) (k : Blk) : Step σ0 ρ0 w0 (σ.new k) ρ w where
  os := h.os
  tape := h.tape
  output := h.output
  sub := h.sub
  size := h.size
  fr := h.fr
  own := fun b L r hl' ho => by
    obtain ⟨e, u⟩ := hl'
    rw [St.new_at, if_neg (fun hb => by subst hb; rw [hr.fresh] at e; cases e)] at u
    exact h.own b L r ⟨e, u⟩ ho
  next := by have := h.next; have h2 : (σ.new k).nx.num = σ.nx.num + 1 := Bid.next_num hl; omega
  new := h.new
  dorm := fun b hb hn => by
    have h1 := h.next
    rw [St.new_at, if_neg (fun e => by subst e; omega)]
    exact h.dorm b hb hn
theorem wake_ok {σ0 σ : St} {ρ0 ρ : Pl} {w0 w w' : World} {b : Bid} {f : Bid → AV} {X : Value} (hs : RS ρ σ w) (ht : Step σ0 ρ0 w0 σ ρ w) (h1 : b.num < σ.nx.num) (h2 : σ0.nx.num ≤ b.num) (h3 : ρ b = none) (hr : NRes ρ w (σ.h.at b) f X w') :
    ∃ ρ', Sub ρ ρ' ∧ (∀ b', b' ≠ b → ρ' b' = ρ b') ∧ RS ρ' σ w' ∧ Step σ0 ρ0 w0 σ ρ' w' ∧ Rv ρ' (f b) X := by
  obtain ⟨n1, n2, n3, n4, n5, L, n6, n7, n8⟩ := hr
  have hsub : Sub ρ (pext ρ b L) := ext_sub h3
  obtain ⟨g1, g2⟩ := n8 (pext ρ b L) b hsub (ext_self _ _ _)
  have hown : ∀ r, Own L r → w.heap.size ≤ r := fun r h => by rcases h with rfl | rfl <;> assumption
  have hcase : ∀ b' L', pext ρ b L b' = some L' → (b' = b ∧ L' = L) ∨ (b' ≠ b ∧ ρ b' = some L') := fun b' L' e => by
    by_cases hb : b' = b
    · subst hb; rw [ext_self] at e; cases e; exact .inl ⟨rfl, rfl⟩
    · unfold pext at e; rw [if_neg hb] at e; exact .inr ⟨hb, e⟩
  refine ⟨pext ρ b L, hsub, fun b' hb => by unfold pext; rw [if_neg hb], ⟨?_, ?_, ?_, hs.free⟩, ?_, g2⟩
  · intro b' L' e
    rcases hcase b' L' e with ⟨rfl, rfl⟩ | ⟨hb, e⟩
    · exact g1
    · have hb2 := hs.blk b' L' e
      generalize hkk : σ.h.at b' = k' at *
      by_cases hd : k'.used
      · have := hb2.lt hd
        exact hb2.mono hsub (n5 _ this.1) (n5 _ this.2)
      · cases k' <;> first | trivial | exact absurd trivial hd
  · intro b1 b2 L1 L2 r hne l1 l2 o1 o2
    obtain ⟨e1, u1⟩ := l1
    obtain ⟨e2, u2⟩ := l2
    rcases hcase b1 L1 e1 with ⟨rfl, rfl⟩ | ⟨hb1, g1'⟩ <;> rcases hcase b2 L2 e2 with ⟨rfl, rfl⟩ | ⟨hb2, g2'⟩
    · exact hne rfl
    · have := hs.lt ⟨g2', u2⟩ o2; have := hown r o1; omega
    · have := hs.lt ⟨g1', u1⟩ o1; have := hown r o2; omega
    · exact hs.inj b1 b2 L1 L2 r hne ⟨g1', u1⟩ ⟨g2', u2⟩ o1 o2
  · intro b' L' e
    rcases hcase b' L' e with ⟨rfl, rfl⟩ | ⟨hb, e⟩
    · exact h1
    · exact hs.dom b' L' e
  · refine ⟨n1.trans ht.os, n2.trans ht.tape, n3.trans ht.output, fun b' L' e => hsub _ _ (ht.sub b' L' e), Nat.le_trans ht.size n4, fun r hr hn => (n5 r (Nat.lt_of_lt_of_le hr ht.size)).trans (ht.fr r hr hn), ?_, ht.next, ?_, ht.dorm⟩
    · intro b' L' r hl ho
      obtain ⟨e, u⟩ := hl
      rcases hcase b' L' e with ⟨rfl, rfl⟩ | ⟨hb, e⟩
      · exact .inl (Nat.le_trans ht.size (hown r ho))
      · exact ht.own b' L' r ⟨e, u⟩ ho
    · intro b' L' e
      rcases hcase b' L' e with ⟨rfl, rfl⟩ | ⟨hb, e⟩
      · exact .inr h2
      · exact ht.new b' L' e
end
end Go.Proofs.YtaogloegiffioaaGreatDoor
namespace Go.Proofs.YtaogloegiffioaaGreatDoor
section
variable {P : Program} {tab : FuncId → Fu} {vtab : Nat → Nat → Fu} {ops : Array Oper} {nt : Nat} {ex rd : Nat → Bool} {anc : Nat → Nat} {ckb : Nat → Nat → Bool}
variable {T0 : Tm} {σ0 : St} {ρ0 : Pl} {w0 : World} {a0 : Act}
theorem dst_of {i : Nat} {o : Oper} {d : Nat} (ho : ops[i]? = some o) (hd : o.dst = some d) : dstOf ops i = some d := by unfold dstOf; rw [ho]; exact hd
theorem of_dst {i : Nat} {o : Oper} {d : Nat} (ho : ops[i]? = some o) (hd : dstOf ops i = some d) : o.dst = some d := by unfold dstOf at hd; rw [ho] at hd; exact hd
theorem set_other (F : RegF P tab vtab ops nt ex rd anc ckb) {i : Nat} {o : Oper} {T : Tm} {v : AV} (ho : ops[i]? = some o) {t : Nat} (ht : t < 256) (hne : dstOf ops i ≠ some t) : getN t (setA o.dst T v) = getN t T :=
  getN_setA ht fun d hd => ⟨(Nat.lt_of_lt_of_le (F.dlt i d (dst_of ho hd)) F.ntl), fun e => hne (by rw [← e]; exact dst_of ho hd)⟩
theorem guard_slot (F : RegF P tab vtab ops nt ex rd anc ckb) {j : Nat} {oj : Oper} (hj : ops[j]? = some oj) {T T' : Tm} (h : ∀ q, mem q (anc j) = true → ∀ t, t < 256 → dstOf ops q = some t → getN t T' = getN t T) : wantsA ops oj T' = wantsA ops oj T := by
  unfold wantsA
  cases hg : oj.guard with
  | none => rfl
  | some p =>
    obtain ⟨q, b⟩ := p
    simp only
    cases hd : (ops[q]?).bind (·.dst) with
    | none => rfl
    | some d =>
      simp only
      rw [h q (F.gd j oj q b hj hg) d (F.llt j oj hj d (looks_guard hg hd)) hd]
theorem agree_set (F : RegF P tab vtab ops nt ex rd anc ckb) {j : Nat} {oj : Oper} (hj : ops[j]? = some oj) {Ti T T' : Tm} (h : ∀ q, mem q (anc j) = true → ∀ t, t < 256 → dstOf ops q = some t → getN t T' = getN t T) (ha : Agree ops anc T0 j oj Ti T) : Agree ops anc T0 j oj Ti T' := fun t ht => by
  obtain ⟨h1, h2⟩ := ha t ht
  refine ⟨fun hq => ?_, h2⟩
  rw [h1 hq]
  obtain ⟨q, e, hm⟩ := hq
  exact (h q hm t (F.llt j oj hj t ht) e).symm
theorem turn_slots (F : RegF P tab vtab ops nt ex rd anc ckb) {ρ : Pl} {PB : Nat → Bid → Prop} {D : Nat} {S : List Nat} {T : Tm} {σ : St} {L : Array Bool} {a : Act} {w : World} (I : Inv P tab vtab ops nt ex anc T0 σ0 ρ0 w0 a0 ρ PB D S T σ L a w)
    {i : Nat} {o : Oper} (ho : ops[i]? = some o) (hn : L.getD i false = false) (hr : ∀ j, mem j (anc i) = true → L.getD j false = true) {Ti : Tm} (ha : Agree ops anc T0 i o Ti T) :
    ∀ t ∈ o.looksAt ops, Rv ρ (getN t Ti) (a.tmps.getD t undef) := fun t ht => by
  have hlt := F.llt i o ho t ht
  by_cases hw : ∃ j, dstOf ops j = some t ∧ mem j (anc i) = true
  · rw [(ha t ht).1 hw]
    obtain ⟨j, e, hm⟩ := hw
    exact I.new t hlt ⟨j, hr j hm, e⟩
  · have hw' : ∀ j, dstOf ops j = some t → mem j (anc i) = false := fun j e => by
      cases hm : mem j (anc i) with
      | false => rfl
      | true => exact absurd ⟨j, e, hm⟩ hw
    rw [(ha t ht).2 hw']
    refine I.old t hlt fun j hj e => ?_
    by_cases hji : j = i
    · subst hji; rw [hn] at hj; cases hj
    · rcases F.ord i o ho t ht j e hji with h | h
      · rw [hw' j e] at h; cases h
      · have := I.cl j hj i h; rw [hn] at this; cases this
theorem getD_set {L : Array Bool} {i : Nat} (hi : i < L.size) (j : Nat) : (L.setIfInBounds i true).getD j false = (L.getD j false || decide (j = i)) := by
  by_cases h : i = j
  · subst h; simp [hi]
  · rw [getD_set_ne false h, decide_eq_false (fun e : j = i => h e.symm), Bool.or_false]
theorem adv_op (F : RegF P tab vtab ops nt ex rd anc ckb) {ρ : Pl} {PB : Nat → Bid → Prop} {D : Nat} {T : Tm} {σ : St} {L : Array Bool} {a : Act} {w : World} (I : Inv P tab vtab ops nt ex anc T0 σ0 ρ0 w0 a0 ρ PB D [] T σ L a w)
    {i : Nat} {o : Oper} (ho : ops[i]? = some o) (hx : ex i = false) (hD : mem i D = false) (hA : ∀ j, mem j (anc i) = true → mem j D = true) {v : AV} {σ' : St} (hs : StepV P tab vtab ops o T σ v σ') :
    ∃ PB', Inv P tab vtab ops nt ex anc T0 σ0 ρ0 w0 a0 ρ PB' (D ||| 2 ^ i) [] (setA o.dst T v) σ' L a w := by
  have hi : i < ops.size := (Array.getElem?_eq_some_iff.1 ho).1
  have hLi : L.getD i false = false := by
    cases h : L.getD i false with
    | false => rfl
    | true => rw [I.sub i h] at hD; cases hD
  have hset : ∀ t, t < 256 → dstOf ops i ≠ some t → getN t (setA o.dst T v) = getN t T := fun t ht hne => set_other F ho ht hne
  have hdone : ∀ q, mem q D = true → ∀ t, t < 256 → dstOf ops q = some t → getN t (setA o.dst T v) = getN t T := fun q hq t ht e =>
    hset t ht fun e' => by rw [F.dne i q t e' e, hq] at hD; cases hD
  have hmem : ∀ j, mem j (D ||| 2 ^ i) = true ↔ (mem j D = true ∨ i = j) := fun j => by rw [mem_or]; simp
  have hcan : ∀ t, t < 256 → (∀ j, mem j (D ||| 2 ^ i) = true → dstOf ops j ≠ some t) → getN t (setA o.dst T v) = getN t T0 := fun t ht h => by
    rw [hset t ht (h i ((hmem i).2 (.inr rfl)))]
    exact I.can t ht fun j hj => h j ((hmem j).2 (.inl hj))
  have hcd : ∀ j, mem j (D ||| 2 ^ i) = true → ∀ q, mem q (anc j) = true → mem q (D ||| 2 ^ i) = true := fun j hj q hq => by
    rcases (hmem j).1 hj with h | h
    · exact (hmem q).2 (.inl (I.cd j h q hq))
    · subst h; exact (hmem q).2 (.inl (hA q hq))
  have hself : ∀ Ti, Ti = T → Agree ops anc T0 i o Ti (setA o.dst T v) := fun Ti e => by
    subst e
    intro t ht
    have hlt := F.llt i o ho t ht
    refine ⟨fun ⟨j, e, hm⟩ => (hdone j (hA j hm) t hlt e).symm, fun hn => I.can t hlt fun j hj e => ?_⟩
    by_cases hji : j = i
    · subst hji; rw [hj] at hD; cases hD
    · rcases F.ord i o ho t ht j e hji with h | h
      · rw [hn j e] at h; cases h
      · have := I.cd j hj i h; rw [hD] at this; cases this
  have hwant : wantsA ops o (setA o.dst T v) = wantsA ops o T := guard_slot F ho fun q hq t ht e => hdone q (hA q hq) t ht e
  -- what pends still
  have hpend : ∀ (PB' : Nat → Bid → Prop), (∀ j b, PB j b → PB' j b) → (∀ e Ti u, Stab e → e Ti σ = .ok u → e Ti σ' = .ok u) → (∀ b, b.num < σ.nx.num → σ'.h.at b = σ.h.at b) →
      ∀ j oj, ops[j]? = some oj → mem j D = true → L.getD j false = false → Pend P tab vtab ops anc T0 ρ PB' [] (setA o.dst T v) σ' j oj := by
    intro PB' hPB hst hat j oj hj hm hL
    have hq : ∀ q, mem q (anc j) = true → ∀ t, t < 256 → dstOf ops q = some t → getN t (setA o.dst T v) = getN t T := fun q hq t ht e => hdone q (I.cd j hm q hq) t ht e
    have hd : ∀ d, oj.dst = some d → getN d (setA o.dst T v) = getN d T := fun d hd => hdone j hm d (Nat.lt_of_lt_of_le (F.dlt j d (dst_of hj hd)) F.ntl) (dst_of hj hd)
    obtain ⟨b, p1, p2, p3⟩ := I.pend j oj hj hm hL
    refine ⟨b, (guard_slot F hj hq).trans p1, fun hb d hd' => (hd d hd').trans (p2 hb d hd'), fun hb _ => ?_⟩
    obtain ⟨Ti, ha, hv⟩ := p3 hb (by simp)
    refine ⟨Ti, agree_set F hj hq ha, ?_⟩
    cases hden : denI P tab vtab oj with
    | ev e =>
      rw [hden] at hv
      obtain ⟨u, u1, u2⟩ := hv
      exact ⟨u, hst e Ti u (F.sb j oj e hj hden) u1, fun d hd' => by rw [hd d hd']; exact u2 d hd'⟩
    | nw e =>
      rw [hden] at hv
      obtain ⟨k, f, b', u1, u2, u3, u4, u5⟩ := hv
      exact ⟨k, f, b', u1, hPB j b' u2, fun d hd' => by rw [hd d hd']; exact u3 d hd', (hat b' (I.bnd j b' u2).1).trans u4, u5⟩
    | ex e => rw [hden] at hv; exact hv.elim
  have hnew : ∀ t, t < 256 → (∃ j, L.getD j false = true ∧ dstOf ops j = some t) → Rv ρ (getN t (setA o.dst T v)) (a.tmps.getD t undef) := fun t ht hw => by
    obtain ⟨j, h1, h2⟩ := hw
    rw [hdone j (I.sub j h1) t ht h2]
    exact I.new t ht ⟨j, h1, h2⟩
  have hef : ∀ j, mem j (D ||| 2 ^ i) = true → ex j = true → L.getD j false = true := fun j hj hxj => by
    rcases (hmem j).1 hj with h | h
    · exact I.ef j h hxj
    · subst h; rw [hx] at hxj; cases hxj
  have hlt : ∀ j, mem j (D ||| 2 ^ i) = true → j < ops.size := fun j hj => by
    rcases (hmem j).1 hj with h | h
    · exact I.lt j h
    · subst h; exact hi
  have hsub : ∀ j, L.getD j false = true → mem j (D ||| 2 ^ i) = true := fun j h => (hmem j).2 (.inl (I.sub j h))
  rcases hs with ⟨hw, rfl, rfl⟩ | ⟨hw, hs⟩
  · refine ⟨PB, I.rs, I.st, I.le, I.df, hnew, I.old, hcan, hsub, I.cl, hcd, hef, hlt, I.inj, fun j b h => ?_, fun j oj hj hm hL => ?_⟩
    · obtain ⟨b1, b2, b3⟩ := I.bnd j b h; exact ⟨b1, b2, (hmem j).2 (.inl b3)⟩
    · rcases (hmem j).1 hm with h | h
      · exact hpend PB (fun _ _ h => h) (fun _ _ _ _ h => h) (fun _ _ => rfl) j oj hj h hL
      · subst h; rw [ho] at hj; cases hj
        refine ⟨false, hwant.trans hw, fun _ d hd => ?_, fun h => (by cases h)⟩
        rw [hd]; exact getN_setA_self (Nat.lt_of_lt_of_le (F.dlt i d (dst_of ho hd)) F.ntl)
  · cases hden : denI P tab vtab o with
    | ev e =>
      rw [hden] at hs
      obtain ⟨h1, rfl⟩ := hs
      refine ⟨PB, I.rs, I.st, I.le, I.df, hnew, I.old, hcan, hsub, I.cl, hcd, hef, hlt, I.inj, fun j b h => ?_, fun j oj hj hm hL => ?_⟩
      · obtain ⟨b1, b2, b3⟩ := I.bnd j b h; exact ⟨b1, b2, (hmem j).2 (.inl b3)⟩
      · rcases (hmem j).1 hm with h | h
        · exact hpend PB (fun _ _ h => h) (fun _ _ _ _ h => h) (fun _ _ => rfl) j oj hj h hL
        · subst h; rw [ho] at hj; cases hj
          refine ⟨true, hwant.trans hw, fun h => (by cases h), fun _ _ => ⟨T, hself T rfl, ?_⟩⟩
          rw [hden]
          refine ⟨v, h1, fun d hd ρ X hX => ?_⟩
          rw [hd, getN_setA_self (Nat.lt_of_lt_of_le (F.dlt i d (dst_of ho hd)) F.ntl)]
          exact hX
    | nw e =>
      rw [hden] at hs
      obtain ⟨k, f, h1, h2, rfl, rfl⟩ := hs
      have hnx : (σ.new k).nx.num = σ.nx.num + 1 := Bid.next_num h2
      have hfree : σ.h.at σ.nx = .none := I.rs.free σ.nx (Nat.le_refl _)
      have hat : ∀ b, b.num < σ.nx.num → (σ.new k).h.at b = σ.h.at b := fun b hb => by rw [St.new_at, if_neg (fun e => by subst e; omega)]
      refine ⟨fun j b => PB j b ∨ (j = i ∧ b = σ.nx), I.rs.sleep h2 k, I.st.sleep I.rs h2 k, I.le, I.df, hnew, I.old, hcan, hsub, I.cl, hcd, hef, hlt, ?_, ?_, fun j oj hj hm hL => ?_⟩
      · rintro j q b (h | ⟨rfl, rfl⟩) (g | ⟨rfl, g⟩)
        · exact I.inj j q b h g
        · subst g; have := (I.bnd j _ h).1; omega
        · have := (I.bnd q _ g).1; omega
        · rfl
      · rintro j b (h | ⟨rfl, rfl⟩)
        · obtain ⟨b1, b2, b3⟩ := I.bnd j b h; exact ⟨by omega, b2, (hmem j).2 (.inl b3)⟩
        · exact ⟨by omega, I.st.next, (hmem j).2 (.inr rfl)⟩
      · rcases (hmem j).1 hm with h | h
        · exact hpend _ (fun _ _ h => .inl h) (fun e Ti u hS h => hS Ti σ k u hfree h) hat j oj hj h hL
        · subst h; rw [ho] at hj; cases hj
          refine ⟨true, hwant.trans hw, fun h => (by cases h), fun _ _ => ⟨T, hself T rfl, ?_⟩⟩
          rw [hden]
          refine ⟨k, f, σ.nx, h1, .inr ⟨rfl, rfl⟩, fun d hd => ?_, ?_, I.rs.fresh⟩
          · rw [hd, getN_setA_self (Nat.lt_of_lt_of_le (F.dlt i d (dst_of ho hd)) F.ntl)]
          · rw [St.new_at, if_pos rfl]
    | ex e =>
      exact absurd ((F.kx i o ho).2 ⟨e, hden⟩) (by rw [hx]; simp)
theorem adv_ck (F : RegF P tab vtab ops nt ex rd anc ckb) {ρ : Pl} {PB : Nat → Bid → Prop} {D : Nat} {S : List Nat} {T : Tm} {σ : St} {L : Array Bool} {a : Act} {w : World} (I : Inv P tab vtab ops nt ex anc T0 σ0 ρ0 w0 a0 ρ PB D S T σ L a w)
    {i : Nat} {o : Oper} (ho : ops[i]? = some o) (hc : ckb i D = true) (hl : LookV P tab vtab ops o T σ) :
    Inv P tab vtab ops nt ex anc T0 σ0 ρ0 w0 a0 ρ PB D (S.filter (· != i)) T σ L a w := by
  refine ⟨I.rs, I.st, I.le, I.df, I.new, I.old, I.can, I.sub, I.cl, I.cd, I.ef, I.lt, I.inj, I.bnd, fun j oj hj hm hL => ?_⟩
  obtain ⟨b, p1, p2, p3⟩ := I.pend j oj hj hm hL
  refine ⟨b, p1, p2, fun hb hS => ?_⟩
  by_cases hji : j = i
  · subst hji
    rw [ho] at hj; cases hj
    subst hb
    obtain ⟨d, e, hd, hden, hk⟩ := hl
    rcases hk with hk | ⟨_, v, h1, h2⟩
    · rw [p1] at hk; cases hk
    · refine ⟨T, fun t ht => ⟨fun _ => rfl, fun hn => I.can t (F.llt j o ho t ht) fun q hq e => ?_⟩, ?_⟩
      · have := F.cb j o D ho hc t ht q e hq
        rw [hn q e] at this; cases this
      · rw [hden]
        refine ⟨v, h1, fun d' hd' ρ X hX => ?_⟩
        rw [hd] at hd'; cases hd'
        exact F.av _ _ h2 ρ X hX
  · exact p3 hb fun h => hS (List.mem_filter.2 ⟨h, by simpa using hji⟩)
end
end Go.Proofs.YtaogloegiffioaaGreatDoor
namespace Go.Proofs.YtaogloegiffioaaGreatDoor
section
variable {P : Program} {tab : FuncId → Fu} {vtab : Nat → Nat → Fu} {ops : Array Oper} {nt : Nat} {ex rd : Nat → Bool} {anc : Nat → Nat} {ckb : Nat → Nat → Bool}
variable {T0 : Tm} {σ0 : St} {ρ0 : Pl} {w0 : World} {a0 : Act} {Q : Exit → Act → World → Prop}
theorem turn_guard (F : RegF P tab vtab ops nt ex rd anc ckb) {ρ : Pl} {PB : Nat → Bid → Prop} {D : Nat} {S : List Nat} {T : Tm} {σ : St} {L : Array Bool} {a : Act} {w : World} (I : Inv P tab vtab ops nt ex anc T0 σ0 ρ0 w0 a0 ρ PB D S T σ L a w)
    {i : Nat} {o : Oper} (ho : ops[i]? = some o) (hr : ∀ j, mem j (anc i) = true → L.getD j false = true) {b : Bool} (hw : wantsA ops o T = some b) : Region.wanted o (yielded ops a.tmps) = b :=
  wanted_ok hw fun j b d hg hd => I.new d (F.llt i o ho d (looks_guard hg hd)) ⟨j, hr j (F.gd i o j b ho hg), hd⟩
theorem wpOp_of {i : Nat} {o : Oper} (ho : ops[i]? = some o) {a : Act} {w : World} {K : Act → World → Prop} {b : Bool} (hw : Region.wanted o (yielded ops a.tmps) = b) (h1 : b = true → o.wp P a w K Q) (h2 : b = false → K (a.put o.dst undef) w) : wpOp P ops Q i K a w := by
  unfold wpOp
  simp only [ho, hw]
  cases b with
  | true => exact .inl (h1 rfl)
  | false => exact h2 rfl
theorem put_slots (F : RegF P tab vtab ops nt ex rd anc ckb) {ρ ρ' : Pl} {T T' : Tm} {L : Array Bool} {a : Act} {i : Nat} {o : Oper} {X : Value} (ho : ops[i]? = some o) (hz : L.size = ops.size) (hle : nt ≤ a.tmps.size) (hsub : Sub ρ ρ')
    (new : ∀ t, t < 256 → (∃ j, L.getD j false = true ∧ dstOf ops j = some t) → Rv ρ (getN t T) (a.tmps.getD t undef))
    (old : ∀ t, t < 256 → (∀ j, L.getD j false = true → dstOf ops j ≠ some t) → Rv ρ (getN t T0) (a.tmps.getD t undef))
    (hT : ∀ t, t < 256 → (∃ j, L.getD j false = true ∧ dstOf ops j = some t) → getN t T' = getN t T) (hX : ∀ d, o.dst = some d → Rv ρ' (getN d T') X) (hn : L.getD i false = false) :
    (∀ t, t < 256 → (∃ j, (L.setIfInBounds i true).getD j false = true ∧ dstOf ops j = some t) → Rv ρ' (getN t T') ((a.put o.dst X).tmps.getD t undef)) ∧
    (∀ t, t < 256 → (∀ j, (L.setIfInBounds i true).getD j false = true → dstOf ops j ≠ some t) → Rv ρ' (getN t T0) ((a.put o.dst X).tmps.getD t undef)) := by
  have hi : i < L.size := by rw [hz]; exact (Array.getElem?_eq_some_iff.1 ho).1
  refine ⟨fun t ht ⟨j, h1, h2⟩ => ?_, fun t ht h => ?_⟩
  · rw [getD_set hi] at h1
    by_cases hji : j = i
    · subst hji
      have hd := of_dst ho h2
      rw [hd, put_get_self (Nat.lt_of_lt_of_le (F.dlt j t h2) hle)]
      exact hX t hd
    · have h1 : L.getD j false = true := by simpa [hji] using h1
      rw [put_get_ne (fun e => hji (F.dne j i t h2 (dst_of ho e))), hT t ht ⟨j, h1, h2⟩]
      exact Rv.mono hsub _ _ (new t ht ⟨j, h1, h2⟩)
  · rw [put_get_ne (fun e => h i (by rw [getD_set hi]; simp) (dst_of ho e))]
    exact Rv.mono hsub _ _ (old t ht fun j hj => h j (by rw [getD_set hi, hj]; rfl))
theorem closed_set {L : Array Bool} {i : Nat} (hi : i < L.size) (hr : ∀ j, mem j (anc i) = true → L.getD j false = true) (cl : ∀ i, L.getD i false = true → ∀ j, mem j (anc i) = true → L.getD j false = true) :
    ∀ j, (L.setIfInBounds i true).getD j false = true → ∀ q, mem q (anc j) = true → (L.setIfInBounds i true).getD q false = true := fun j hj q hq => by
  rw [getD_set hi] at hj ⊢
  by_cases hji : j = i
  · subst hji; rw [hr q hq]; rfl
  · have hj : L.getD j false = true := by simpa [hji] using hj
    rw [cl j hj q hq]; rfl
theorem not_set {L : Array Bool} {i j : Nat} (hi : i < L.size) (h : (L.setIfInBounds i true).getD j false = false) : j ≠ i ∧ L.getD j false = false := by
  rw [getD_set hi] at h
  have := Bool.or_eq_false_iff.1 h
  exact ⟨by simpa using this.2, this.1⟩
theorem do_ex (F : RegF P tab vtab ops nt ex rd anc ckb) {ρ : Pl} {PB : Nat → Bid → Prop} {D : Nat} {T : Tm} {σ : St} {L : Array Bool} {a : Act} {w : World} (I : Inv P tab vtab ops nt ex anc T0 σ0 ρ0 w0 a0 ρ PB D [] T σ L a w)
    {i : Nat} {o : Oper} (ho : ops[i]? = some o) (hx : ex i = true) (hD : mem i D = false) (hr : ∀ j, mem j (anc i) = true → L.getD j false = true) (hz : L.size = ops.size) {v : AV} {σ' : St} (hs : StepV P tab vtab ops o T σ v σ')
    {S : List Nat} (hS : ∀ j, mem j D = true → rd j = true → mem j (anc i) = false → j ∈ S) :
    wpOp P ops Q i (fun a' w' => ∃ ρ', Inv P tab vtab ops nt ex anc T0 σ0 ρ0 w0 a0 ρ' PB (D ||| 2 ^ i) S (setA o.dst T v) σ' (L.setIfInBounds i true) a' w') a w := by
  have hi : i < ops.size := (Array.getElem?_eq_some_iff.1 ho).1
  have hi' : i < L.size := by omega
  have hLi : L.getD i false = false := by
    cases h : L.getD i false with
    | false => rfl
    | true => rw [I.sub i h] at hD; cases hD
  have hA : ∀ j, mem j (anc i) = true → mem j D = true := fun j h => I.sub j (hr j h)
  have hagree : Agree ops anc T0 i o T T := fun t ht => ⟨fun _ => rfl, fun hn => I.can t (F.llt i o ho t ht) fun j hj e => by
    by_cases hji : j = i
    · subst hji; rw [hj] at hD; cases hD
    · rcases F.ord i o ho t ht j e hji with h | h
      · rw [hn j e] at h; cases h
      · have := I.cd j hj i h; rw [hD] at this; cases this⟩
  have hslots := turn_slots F I ho hLi hr hagree
  have hset : ∀ t, t < 256 → dstOf ops i ≠ some t → getN t (setA o.dst T v) = getN t T := fun t ht hne => set_other F ho ht hne
  have hdone : ∀ q, mem q D = true → ∀ t, t < 256 → dstOf ops q = some t → getN t (setA o.dst T v) = getN t T := fun q hq t ht e =>
    hset t ht fun e' => by rw [F.dne i q t e' e, hq] at hD; cases hD
  have hmem : ∀ j, mem j (D ||| 2 ^ i) = true ↔ (mem j D = true ∨ i = j) := fun j => by rw [mem_or]; simp
  -- what stands behind it
  have key : ∀ (ρ' : Pl) (X : Value) (w' : World), Rv ρ' v X → RS ρ' σ' w' → Step σ ρ w σ' ρ' w' → ∃ ρ', Inv P tab vtab ops nt ex anc T0 σ0 ρ0 w0 a0 ρ' PB (D ||| 2 ^ i) S (setA o.dst T v) σ' (L.setIfInBounds i true) (a.put o.dst X) w' := by
    intro ρ' X w' hX hrs hst
    obtain ⟨hnew, hold⟩ := put_slots F (T' := setA o.dst T v) (X := X) ho hz I.le hst.sub I.new I.old (fun t ht ⟨j, h1, h2⟩ => hdone j (I.sub j h1) t ht h2) (fun d hd => by
      rw [hd, getN_setA_self (Nat.lt_of_lt_of_le (F.dlt i d (dst_of ho hd)) F.ntl)]; exact hX) hLi
    refine ⟨ρ', hrs, I.st.trans hst, by rw [put_size]; exact I.le, (put_defers _ _ _).trans I.df, hnew, hold, fun t ht h => ?_, fun j hj => ?_, closed_set hi' hr I.cl, fun j hj q hq => ?_, fun j hj hxj => ?_, fun j hj => ?_, I.inj, fun j b h => ?_, fun j oj hj hm hL => ?_⟩
    · rw [hset t ht (h i ((hmem i).2 (.inr rfl)))]
      exact I.can t ht fun j hj => h j ((hmem j).2 (.inl hj))
    · rw [getD_set hi'] at hj
      by_cases hji : j = i
      · exact (hmem j).2 (.inr hji.symm)
      · exact (hmem j).2 (.inl (I.sub j (by simpa [hji] using hj)))
    · rcases (hmem j).1 hj with h | h
      · exact (hmem q).2 (.inl (I.cd j h q hq))
      · subst h; exact (hmem q).2 (.inl (hA q hq))
    · rw [getD_set hi']
      rcases (hmem j).1 hj with h | h
      · rw [I.ef j h hxj]; rfl
      · subst h; simp
    · rcases (hmem j).1 hj with h | h
      · exact I.lt j h
      · subst h; exact hi
    · obtain ⟨b1, b2, b3⟩ := I.bnd j b h
      exact ⟨Nat.lt_of_lt_of_le b1 hst.next, b2, (hmem j).2 (.inl b3)⟩
    · obtain ⟨hji, hL⟩ := not_set hi' hL
      have hm : mem j D = true := by
        rcases (hmem j).1 hm with h | h
        · exact h
        · exact absurd h.symm hji
      have hq : ∀ q, mem q (anc j) = true → ∀ t, t < 256 → dstOf ops q = some t → getN t (setA o.dst T v) = getN t T := fun q hq t ht e => hdone q (I.cd j hm q hq) t ht e
      have hd : ∀ d, oj.dst = some d → getN d (setA o.dst T v) = getN d T := fun d hd => hdone j hm d (Nat.lt_of_lt_of_le (F.dlt j d (dst_of hj hd)) F.ntl) (dst_of hj hd)
      obtain ⟨b, p1, p2, p3⟩ := I.pend j oj hj hm hL
      refine ⟨b, (guard_slot F hj hq).trans p1, fun hb d hd' => (hd d hd').trans (p2 hb d hd'), fun hb hjS => ?_⟩
      obtain ⟨Ti, ha, hv⟩ := p3 hb (by simp)
      refine ⟨Ti, agree_set F hj hq ha, ?_⟩
      cases hden : denI P tab vtab oj with
      | ev e =>
        rw [hden] at hv
        obtain ⟨u, u1, u2⟩ := hv
        have hrd : rd j = false := by
          cases h : rd j with
          | false => rfl
          | true =>
            cases h2 : mem j (anc i) with
            | false => exact absurd (hS j hm h h2) hjS
            | true => rw [hr j h2] at hL; cases hL
        exact ⟨u, (F.pu j oj e hj hden hrd Ti σ' σ).trans u1, fun d hd' => by rw [hd d hd']; exact u2 d hd'⟩
      | nw e =>
        rw [hden] at hv
        obtain ⟨k, f, b', u1, u2, u3, u4, u5⟩ := hv
        obtain ⟨b1, b2, b3⟩ := I.bnd j b' u2
        refine ⟨k, f, b', u1, u2, fun d hd' => by rw [hd d hd']; exact u3 d hd', (hst.dorm b' b1 u5).trans u4, ?_⟩
        cases hb : ρ' b' with
        | none => rfl
        | some L' =>
          rcases hst.new b' L' hb with h | h
          · rw [u5] at h; cases h
          · omega
      | ex e => rw [hden] at hv; exact hv.elim
  rcases hs with ⟨hw, rfl, rfl⟩ | ⟨hw, hs⟩
  · exact wpOp_of ho (turn_guard F I ho hr hw) (fun h => by cases h) fun _ => key ρ undef w rfl I.rs (Step.refl _ _ _)
  · refine wpOp_of ho (turn_guard F I ho hr hw) (fun _ => ?_) (fun h => by cases h)
    obtain ⟨e, hden⟩ := (F.kx i o ho).1 hx
    rw [hden] at hs
    have hso := F.so i o ho
    rw [hden] at hso
    exact hso ρ T σ w a v σ' (slots_of_looks hslots) I.rs hs _ Q key
theorem do_turn (F : RegF P tab vtab ops nt ex rd anc ckb) {ρ : Pl} {PB : Nat → Bid → Prop} {D : Nat} {T : Tm} {σ : St} {L : Array Bool} {a : Act} {w : World} (I : Inv P tab vtab ops nt ex anc T0 σ0 ρ0 w0 a0 ρ PB D [] T σ L a w)
    {i : Nat} {o : Oper} (ho : ops[i]? = some o) (hD : mem i D = true) (hLi : L.getD i false = false) (hr : ∀ j, mem j (anc i) = true → L.getD j false = true) (hz : L.size = ops.size) :
    wpOp P ops Q i (fun a' w' => ∃ ρ', Inv P tab vtab ops nt ex anc T0 σ0 ρ0 w0 a0 ρ' PB D [] T σ (L.setIfInBounds i true) a' w') a w := by
  have hi : i < ops.size := (Array.getElem?_eq_some_iff.1 ho).1
  have hi' : i < L.size := by omega
  have key : ∀ (ρ' : Pl) (X : Value) (w' : World), Sub ρ ρ' → RS ρ' σ w' → Step σ0 ρ0 w0 σ ρ' w' → (∀ d, o.dst = some d → Rv ρ' (getN d T) X) → (∀ j b, PB j b → j ≠ i → ρ b = none → ρ' b = none) →
      ∃ ρ', Inv P tab vtab ops nt ex anc T0 σ0 ρ0 w0 a0 ρ' PB D [] T σ (L.setIfInBounds i true) (a.put o.dst X) w' := by
    intro ρ' X w' hsub hrs hst hX hno
    obtain ⟨hnew, hold⟩ := put_slots F (T' := T) (X := X) ho hz I.le hsub I.new I.old (fun t ht _ => rfl) hX hLi
    refine ⟨ρ', hrs, hst, by rw [put_size]; exact I.le, (put_defers _ _ _).trans I.df, hnew, hold, I.can, fun j hj => ?_, closed_set hi' hr I.cl, I.cd, fun j hj hxj => ?_, I.lt, I.inj, I.bnd, fun j oj hj hm hL => ?_⟩
    · rw [getD_set hi'] at hj
      by_cases hji : j = i
      · rw [hji]; exact hD
      · exact I.sub j (by simpa [hji] using hj)
    · rw [getD_set hi', I.ef j hj hxj]; rfl
    · obtain ⟨hji, hL⟩ := not_set hi' hL
      obtain ⟨b, p1, p2, p3⟩ := I.pend j oj hj hm hL
      refine ⟨b, p1, p2, fun hb hjS => ?_⟩
      obtain ⟨Ti, ha, hv⟩ := p3 hb hjS
      refine ⟨Ti, ha, ?_⟩
      cases hden : denI P tab vtab oj with
      | ev e => rw [hden] at hv; exact hv
      | nw e =>
        rw [hden] at hv
        obtain ⟨k, f, b', u1, u2, u3, u4, u5⟩ := hv
        exact ⟨k, f, b', u1, u2, u3, u4, hno j b' u2 hji u5⟩
      | ex e => rw [hden] at hv; exact hv.elim
  obtain ⟨b, p1, p2, p3⟩ := I.pend i o ho hD hLi
  refine wpOp_of ho (turn_guard F I ho hr p1) (fun hb => ?_) (fun hb => ?_)
  · obtain ⟨Ti, ha, hv⟩ := p3 hb (by simp)
    have hslots := turn_slots F I ho hLi hr ha
    have hso := F.so i o ho
    cases hden : denI P tab vtab o with
    | ev e =>
      rw [hden] at hv hso
      obtain ⟨u, u1, u2⟩ := hv
      obtain ⟨X, h1, h2⟩ := hso ρ Ti σ w a u (slots_of_looks hslots) I.rs u1
      unfold Oper.wp
      rw [h1]
      exact key ρ X w (fun _ _ h => h) I.rs I.st (fun d hd => u2 d hd ρ X h2) (fun _ _ _ _ h => h)
    | nw e =>
      rw [hden] at hv hso
      obtain ⟨k, f, b', u1, u2, u3, u4, u5⟩ := hv
      obtain ⟨X, w', h1, h2⟩ := hso ρ Ti w a k f (slots_of_looks hslots) u1
      obtain ⟨b1, b2, b3⟩ := I.bnd i b' u2
      rw [← u4] at h2
      obtain ⟨ρ', g1, g2, g3, g4, g5⟩ := wake_ok I.rs I.st b1 b2 u5 h2
      unfold Oper.wp
      rw [h1]
      exact key ρ' X w' g1 g3 g4 (fun d hd => by rw [u3 d hd]; exact g5) fun j b hj hji hb => by
        rw [g2 b (fun e => hji (I.inj j i b hj (by rw [e]; exact u2)))]; exact hb
    | ex e => rw [hden] at hv; exact hv.elim
  · exact key ρ undef w (fun _ _ h => h) I.rs I.st (fun d hd => by rw [p2 hb d hd]; exact rfl) (fun _ _ _ _ h => h)
def Rests (ex : Nat → Bool) : List PI → Prop
  | [] => True
  | .op i :: _ => ex i = true
  | .ck _ :: _ => False
theorem adv_all (F : RegF P tab vtab ops nt ex rd anc ckb) {ρ : Pl} {L : Array Bool} {a : Act} {w : World} {T2 : Tm} {σ2 : St} : ∀ (l : List PI) (D : Nat) (S : List Nat) (E : Option Nat) (PB : Nat → Bid → Prop) (T : Tm) (σ : St),
    okP ops.size ex rd anc ckb l D S E = true → RunP P tab vtab ops l T σ T2 σ2 → Inv P tab vtab ops nt ex anc T0 σ0 ρ0 w0 a0 ρ PB D S T σ L a w →
    ∃ l' D' E' PB' T' σ', okP ops.size ex rd anc ckb l' D' [] E' = true ∧ RunP P tab vtab ops l' T' σ' T2 σ2 ∧ Rests ex l' ∧ Inv P tab vtab ops nt ex anc T0 σ0 ρ0 w0 a0 ρ PB' D' [] T' σ' L a w
  | [], D, S, E, PB, T, σ, hk, hr, I => by
    have hS : S = [] := by
      have := (Bool.and_eq_true_iff.1 (show (_ && S.isEmpty) = true from hk)).2
      simpa using this
    subst hS
    exact ⟨[], D, E, PB, T, σ, hk, hr, trivial, I⟩
  | .ck i :: l, D, S, E, PB, T, σ, hk, hr, I => by
    obtain ⟨k1, k2⟩ := Bool.and_eq_true_iff.1 (show (mem i D && (ckb i D && okP ops.size ex rd anc ckb l D (S.filter (· != i)) E)) = true from hk)
    obtain ⟨k2, k3⟩ := Bool.and_eq_true_iff.1 k2
    cases hr with
    | ck ho hs h => exact adv_all F l D _ E PB T σ k3 h (adv_ck F I ho k2 hs)
  | .op i :: l, D, S, E, PB, T, σ, hk, hr, I => by
    have hk0 := hk
    unfold okP at hk
    obtain ⟨k0, hk⟩ := Bool.and_eq_true_iff.1 hk
    obtain ⟨k1, hk⟩ := Bool.and_eq_true_iff.1 hk
    obtain ⟨k2, hk⟩ := Bool.and_eq_true_iff.1 hk
    obtain ⟨k3, hk⟩ := Bool.and_eq_true_iff.1 hk
    obtain ⟨k4, hk⟩ := Bool.and_eq_true_iff.1 hk
    have hS : S = [] := by simpa using k0
    subst hS
    cases hx : ex i with
    | true => exact ⟨_, D, E, PB, T, σ, hk0, hr, hx, I⟩
    | false =>
      rw [hx] at hk
      cases hr with
      | op ho hs h =>
        obtain ⟨PB', I'⟩ := adv_op F I ho hx (by simpa using k2) (fun j hj => mem_land k3 hj) hs
        exact adv_all F l _ _ _ PB' _ _ hk h I'
theorem later (ex rd : Nat → Bool) (anc : Nat → Nat) (ckb : Nat → Nat → Bool) (n : Nat) (D0 : Nat) : ∀ (l : List PI) (D : Nat) (S : List Nat) (e : Nat), okP n ex rd anc ckb l D S (some e) = true → mem e D0 = false → (∀ j, mem j D0 = true → mem j D = true) →
    ∀ i, mem i D = false → i < n → ∃ q, mem q (anc i) = true ∧ mem q D0 = false
  | [], D, S, e, hk, he, hs, i, hi, hn => by
    have := (Bool.and_eq_true_iff.1 (show ((List.range n).all (fun i => mem i D) && S.isEmpty) = true from hk)).1
    have := List.all_eq_true.1 this i (List.mem_range.2 hn)
    rw [hi] at this; cases this
  | .ck j :: l, D, S, e, hk, he, hs, i, hi, hn => by
    obtain ⟨_, k2⟩ := Bool.and_eq_true_iff.1 (show (mem j D && (ckb j D && okP n ex rd anc ckb l D (S.filter (· != j)) (some e))) = true from hk)
    exact later ex rd anc ckb n D0 l D _ e (Bool.and_eq_true_iff.1 k2).2 he hs i hi hn
  | .op j :: l, D, S, e, hk, he, hs, i, hi, hn => by
    unfold okP at hk
    obtain ⟨k0, hk⟩ := Bool.and_eq_true_iff.1 hk
    obtain ⟨k1, hk⟩ := Bool.and_eq_true_iff.1 hk
    obtain ⟨k2, hk⟩ := Bool.and_eq_true_iff.1 hk
    obtain ⟨k3, hk⟩ := Bool.and_eq_true_iff.1 hk
    obtain ⟨k4, hk⟩ := Bool.and_eq_true_iff.1 hk
    by_cases hij : j = i
    · subst hij; exact ⟨e, k4, he⟩
    · have hi' : mem i (D ||| 2 ^ j) = false := by rw [mem_or, hi]; simp [hij]
      have hs' : ∀ q, mem q D0 = true → mem q (D ||| 2 ^ j) = true := fun q hq => by rw [mem_or, hs q hq]; rfl
      cases hx : ex j with
      | true =>
        rw [hx] at hk
        have hj : mem j D0 = false := by
          cases h : mem j D0 with
          | false => rfl
          | true => rw [hs j h] at k2; simp at k2
        exact later ex rd anc ckb n D0 l _ _ j hk hj hs' i hi' hn
      | false =>
        rw [hx] at hk
        exact later ex rd anc ckb n D0 l _ _ e hk he hs' i hi' hn
theorem region_any (F : RegF P tab vtab ops nt ex rd anc ckb) {l : List PI} {T : Tm} {σ : St} {ρ : Pl} {a : Act} {w : World} {T2 : Tm} {σ2 : St} (hk : okP ops.size ex rd anc ckb l 0 [] none = true) (hrun : RunP P tab vtab ops l T σ T2 σ2)
    (hrs : RS ρ σ w) (hle : nt ≤ a.tmps.size) (hT : ∀ t, t < 256 → Rv ρ (getN t T) (a.tmps.getD t undef))
    (hQ : ∀ (ρ' : Pl) (a' : Act) (w' : World), RS ρ' σ2 w' → Step σ ρ w σ2 ρ' w' → nt ≤ a'.tmps.size → (∀ t, t < 256 → Rv ρ' (getN t T2) (a'.tmps.getD t undef)) → a'.defers = a.defers → Q .normal a' w') :
    wpAny P .any ops Q ops.size (Array.replicate ops.size false) a w := by
  have h0 : ∀ j, (Array.replicate ops.size false).getD j false = false := fun j => by
    rw [Array.getD_eq_getD_getElem?, Array.getElem?_replicate]
    split <;> rfl
  have hm0 : ∀ j, mem j 0 = false := fun j => by unfold mem; exact Nat.zero_testBit j
  have I0 : Inv P tab vtab ops nt ex anc T σ ρ w a ρ (fun _ _ => False) 0 [] T σ (Array.replicate ops.size false) a w :=
    ⟨hrs, Step.refl _ _ _, hle, rfl, fun t _ ⟨j, h, _⟩ => (by rw [h0 j] at h; cases h), fun t ht _ => hT t ht, fun _ _ _ => rfl, fun j h => (by rw [h0 j] at h; cases h), fun j h => (by rw [h0 j] at h; cases h),
      fun j h => (by rw [hm0 j] at h; cases h), fun j h => (by rw [hm0 j] at h; cases h), fun j h => (by rw [hm0 j] at h; cases h), fun _ _ _ h => h.elim, fun _ _ h => h.elim, fun j _ _ h => (by rw [hm0 j] at h; cases h)⟩
  refine wpAny_inv (fun L a' w' => ∃ ρ' l' D' E' PB' T' σ', okP ops.size ex rd anc ckb l' D' [] E' = true ∧ RunP P tab vtab ops l' T' σ' T2 σ2 ∧ Rests ex l' ∧ Inv P tab vtab ops nt ex anc T σ ρ w a ρ' PB' D' [] T' σ' L a' w') ?_ ?_ ops.size _ a w (by simp) ?_ ?_
  · rintro L a1 w1 hz ⟨ρ1, l1, D1, E1, PB1, T1, σ1, hk1, hrun1, hre1, I1⟩ i hi
    obtain ⟨hn, o, ho, hedge⟩ := mem_ready.1 hi
    have hio : i < ops.size := (Array.getElem?_eq_some_iff.1 ho).1
    have hiL : i < L.size := by omega
    have hn : L.getD i false = false := by simpa [Array.getD, hiL] using hn
    have hr : ∀ j, mem j (anc i) = true → L.getD j false = true := fun j hj => by
      obtain ⟨e, he, hb, h⟩ := F.anc1 i o ho j hj
      have := hedge e he hb
      rcases h with h | h
      · rw [h]; exact this
      · exact I1.cl e.on this j h
    cases hD : mem i D1 with
    | true => exact wpOp_mono (fun a' w' ⟨ρ', h⟩ => ⟨ρ', l1, D1, E1, PB1, T1, σ1, hk1, hrun1, hre1, h⟩) (do_turn F I1 ho hD hn hr hz)
    | false =>
      cases l1 with
      | nil =>
        have := (Bool.and_eq_true_iff.1 (show ((List.range ops.size).all (fun i => mem i D1) && _) = true from hk1)).1
        have := List.all_eq_true.1 this i (List.mem_range.2 hio)
        rw [hD] at this; cases this
      | cons p l1 =>
        cases p with
        | ck j => exact hre1.elim
        | op j =>
          have hre1 : ex j = true := hre1
          unfold okP at hk1
          obtain ⟨_, hk1⟩ := Bool.and_eq_true_iff.1 hk1
          obtain ⟨_, hk1⟩ := Bool.and_eq_true_iff.1 hk1
          obtain ⟨k2, hk1⟩ := Bool.and_eq_true_iff.1 hk1
          obtain ⟨k3, hk1⟩ := Bool.and_eq_true_iff.1 hk1
          obtain ⟨_, hk1⟩ := Bool.and_eq_true_iff.1 hk1
          rw [hre1] at hk1
          have hij : i = j := by
            by_cases hij : j = i
            · exact hij.symm
            · obtain ⟨q, h1, h2⟩ := later ex rd anc ckb ops.size D1 l1 _ _ j hk1 (by simpa using k2) (fun q hq => by rw [mem_or, hq]; rfl) i (by rw [mem_or, hD]; simp [hij]) hio
              rw [I1.sub q (hr q h1)] at h2; cases h2
          subst hij
          cases hrun1 with
          | op ho' hs h =>
            rw [ho] at ho'; cases ho'
            have hS : ∀ j, mem j D1 = true → rd j = true → mem j (anc i) = false → j ∈ (List.range ops.size).filter fun j => mem j D1 && (rd j && !mem j (anc i)) := fun j h1 h2 h3 =>
              List.mem_filter.2 ⟨List.mem_range.2 (I1.lt j h1), by rw [h1, h2, h3]; rfl⟩
            exact wpOp_mono (fun a' w' ⟨ρ', h'⟩ => by
              obtain ⟨l', D', E', PB', T', σ', g⟩ := adv_all F l1 _ _ _ _ _ _ hk1 h h'
              exact ⟨ρ', l', D', E', PB', T', σ', g⟩) (do_ex F I1 ho hre1 hD hr hz hs hS)
  · rintro L a1 w1 hz ⟨ρ1, l1, D1, E1, PB1, T1, σ1, hk1, hrun1, hre1, I1⟩ hnil
    have hall : ∀ n i, i < n → i < ops.size → L.getD i false = true := by
      intro n
      induction n with
      | zero => intro i h; omega
      | succ n ih =>
        intro i hi hio
        cases hL : L.getD i false with
        | true => rfl
        | false =>
          have : i ∈ Region.ready .any ops L := mem_ready.2 ⟨by simpa [Array.getD, show i < L.size by omega] using hL, ops[i], Array.getElem?_eq_getElem hio, fun e he hb => by
            have := F.back i ops[i] (Array.getElem?_eq_getElem hio) e he hb
            exact ih e.on (by omega) (by omega)⟩
          rw [hnil] at this; cases this
    have hall : ∀ i, i < ops.size → L.getD i false = true := fun i hi => hall (i + 1) i (by omega) hi
    cases l1 with
    | nil =>
      cases hrun1
      refine hQ ρ1 a1 w1 I1.rs I1.st I1.le (fun t ht => ?_) I1.df
      by_cases hw : ∃ j, L.getD j false = true ∧ dstOf ops j = some t
      · exact I1.new t ht hw
      · rw [I1.can t ht fun j hj e => hw ⟨j, hall j (I1.lt j hj), e⟩]
        exact I1.old t ht fun j hj e => hw ⟨j, hj, e⟩
    | cons p l1 =>
      cases p with
      | ck j => exact hre1.elim
      | op j =>
        unfold okP at hk1
        obtain ⟨_, hk1⟩ := Bool.and_eq_true_iff.1 hk1
        obtain ⟨k1, hk1⟩ := Bool.and_eq_true_iff.1 hk1
        obtain ⟨k2, hk1⟩ := Bool.and_eq_true_iff.1 hk1
        have hj : j < ops.size := by simpa using k1
        rw [I1.sub j (hall j hj)] at k2; cases k2
  · simp
  · obtain ⟨l', D', E', PB', T', σ', g⟩ := adv_all F l 0 [] none _ T σ hk hrun I0
    exact ⟨ρ, l', D', E', PB', T', σ', g⟩
end
end Go.Proofs.YtaogloegiffioaaGreatDoor
namespace Go.Proofs.YtaogloegiffioaaGreatDoor
theorem dEq_ok {a b : D16} (h : dEq a b = true) : a = b := by cases a <;> cases b <;> first | rfl | cases h
theorem andR {a b : Bool} (h : (Bool.rec (motive := fun _ => Bool) false b a) = true) : a = true ∧ b = true := by cases a <;> first | exact ⟨rfl, h⟩ | cases h
theorem bidEq_ok {a b : Bid} (h : bidEq a b = true) : a = b := by
  obtain ⟨a0, a1, a2, a3, a4⟩ := a
  obtain ⟨b0, b1, b2, b3, b4⟩ := b
  have h : Bool.rec (motive := fun _ => Bool) false (Bool.rec (motive := fun _ => Bool) false (Bool.rec (motive := fun _ => Bool) false (Bool.rec (motive := fun _ => Bool) false (dEq a0 b0) (dEq a1 b1)) (dEq a2 b2)) (dEq a3 b3)) (dEq a4 b4) = true := h
  obtain ⟨h0, h⟩ := andR h
  obtain ⟨h1, h⟩ := andR h
  obtain ⟨h2, h⟩ := andR h
  obtain ⟨h3, h⟩ := andR h
  rw [dEq_ok h0, dEq_ok h1, dEq_ok h2, dEq_ok h3, dEq_ok h]
theorem litEq_ok {v u : Value} (h : litEq v u = true) : v = u := by
  unfold litEq at h
  split at h
  · rfl
  · obtain ⟨h1, h2⟩ := Bool.and_eq_true_iff.1 h
    rw [Nat.eq_of_beq_eq_true h1, Nat.eq_of_beq_eq_true h2]
  · rfl
  · rfl
  · rfl
  · cases h
theorem eqBB_ok {a b : Bool} (h : eqBB a b = true) : a = b := by cases a <;> cases b <;> first | rfl | cases h
theorem cellEq_ok {x y : AV} (h : cellEq x y = true) : x = y := by
  cases x <;> cases y <;> first
    | (cases h; done)
    | (rw [Nat.eq_of_beq_eq_true h]; done)
    | (rw [eqBB_ok h]; done)
    | (have h := of_decide_eq_true ((eqSB_eq _ _ _ _).symm.trans (show eqSB _ _ _ _ = true from h)); rw [h.1, h.2]; done)
    | (obtain ⟨h1, h2⟩ := andR (show Bool.rec (motive := fun _ => Bool) false (bidEq _ _) (Nat.beq _ _) = true from h); rw [Nat.eq_of_beq_eq_true h1, bidEq_ok h2]; done)
    | (rw [bidEq_ok h]; done)
    | (rw [litEq_ok h]; done)
    | (obtain ⟨h1, h⟩ := Bool.and_eq_true_iff.1 (show (bidEq _ _ && (Nat.beq _ _ && (Nat.beq _ _ && (Nat.beq _ _ && (Nat.beq _ _ && eqBB _ _))))) = true from h)
       obtain ⟨h2, h⟩ := Bool.and_eq_true_iff.1 h
       obtain ⟨h3, h⟩ := Bool.and_eq_true_iff.1 h
       obtain ⟨h4, h⟩ := Bool.and_eq_true_iff.1 h
       obtain ⟨h5, h⟩ := Bool.and_eq_true_iff.1 h
       rw [bidEq_ok h1, Nat.eq_of_beq_eq_true h2, Nat.eq_of_beq_eq_true h3, Nat.eq_of_beq_eq_true h4, Nat.eq_of_beq_eq_true h5, eqBB_ok h]; done)
theorem okR_ok (r : Row) : ∀ d : Nat, okR r (8 ^ d) = true → r.ok d := by
  induction r using Row.ind with
  | he => intro d _; exact Row.ok_e d
  | hl a0 a1 a2 a3 a4 a5 a6 a7 =>
    intro d h
    have h : 8 ^ d = 1 := Nat.eq_of_beq_eq_true h
    have : d = 0 := by
      cases d with
      | zero => rfl
      | succ d => rw [Nat.pow_succ] at h; omega
    subst this; exact Row.ok_l ..
  | hn q a0 a1 a2 a3 a4 a5 a6 a7 h0 h1 h2 h3 h4 h5 h6 h7 =>
    intro d h
    obtain ⟨c1, h⟩ := andR (show Bool.rec (motive := fun _ => Bool) false (Bool.rec (motive := fun _ => Bool) false _ (Nat.beq q (8 ^ d))) (Nat.ble 8 (8 ^ d)) = true from h)
    obtain ⟨c2, h⟩ := andR h
    obtain ⟨k0, h⟩ := andR h
    obtain ⟨k1, h⟩ := andR h
    obtain ⟨k2, h⟩ := andR h
    obtain ⟨k3, h⟩ := andR h
    obtain ⟨k4, h⟩ := andR h
    obtain ⟨k5, h⟩ := andR h
    obtain ⟨k6, k7⟩ := andR h
    cases d with
    | zero => cases c1
    | succ e =>
      have hd : Nat.div (8 ^ (e + 1)) 8 = 8 ^ e := by
        show 8 ^ (e + 1) / 8 = _
        rw [Nat.pow_succ]; exact Nat.mul_div_cancel _ (by omega)
      rw [hd] at k0 k1 k2 k3 k4 k5 k6 k7
      exact ⟨e, rfl, Nat.eq_of_beq_eq_true c2, h0 e k0, h1 e k1, h2 e k2, h3 e k3, h4 e k4, h5 e k5, h6 e k6, h7 e k7⟩
theorem rowOk_ok {r : Row} (h : rowOk r = true) : r.good := by
  obtain ⟨h1, h2⟩ := andR (show Bool.rec (motive := fun _ => Bool) false (okR r (Nat.div r.cap 8)) (okPow (Nat.div r.cap 8)) = true from h)
  generalize Nat.div r.cap 8 = p at *
  have : p = 8 ^ 0 ∨ p = 8 ^ 1 ∨ p = 8 ^ 2 ∨ p = 8 ^ 3 := by
    unfold okPow at h1
    cases c1 : Nat.beq p 1 with
    | true => exact .inl (Nat.eq_of_beq_eq_true c1)
    | false =>
      rw [c1] at h1; simp only at h1
      cases c2 : Nat.beq p 8 with
      | true => exact .inr (.inl (Nat.eq_of_beq_eq_true c2))
      | false =>
        rw [c2] at h1; simp only at h1
        cases c3 : Nat.beq p 64 with
        | true => exact .inr (.inr (.inl (Nat.eq_of_beq_eq_true c3)))
        | false =>
          rw [c3] at h1; simp only at h1
          exact .inr (.inr (.inr (Nat.eq_of_beq_eq_true h1)))
  rcases this with e | e | e | e <;> subst e <;> exact ⟨_, okR_ok r _ h2⟩
theorem rowEq_ok {r q : Row} : ∀ (n : Nat), rowEq n r q = true → ∀ i, i < n → ∃ x, r.get i = .ok x ∧ q.get i = .ok x
  | 0, _, i, hi => by omega
  | n + 1, h, i, hi => by
    have h : OA.rec (motive := fun _ => Bool) false (fun x => OA.rec (motive := fun _ => Bool) false (fun y => Bool.rec false (rowEq n r q) (cellEq x y)) (q.get n)) (r.get n) = true := h
    cases e1 : r.get n with
    | no => rw [e1] at h; cases h
    | ok x =>
      cases e2 : q.get n with
      | no => rw [e1, e2] at h; cases h
      | ok y =>
        rw [e1, e2] at h
        obtain ⟨h1, h2⟩ := andR h
        have := cellEq_ok h1
        subst this
        rcases Nat.lt_or_ge i n with g | g
        · exact rowEq_ok n h2 i g
        · have : i = n := by omega
          subst this; exact ⟨x, e1, e2⟩
theorem avEq_ok (v u : AV) (h : avEq v u = true) (ρ : Pl) (X : Value) (hv : Rv ρ v X) : Rv ρ u X := by
  have key : (∃ n r m q, v = .agg n r ∧ u = .agg m q ∧ Nat.beq n m = true ∧ Nat.ble n q.cap = true ∧ rowOk q = true ∧ rowEq n r q = true) ∨ cellEq v u = true := by
    unfold avEq at h
    rcases onAgg_or h with ⟨n, r, e, h⟩ | h
    · rcases onAgg_or h with ⟨m, q, e', h⟩ | h
      · obtain ⟨h1, h⟩ := andR h
        obtain ⟨h2, h⟩ := andR h
        obtain ⟨h3, h4⟩ := andR h
        exact .inl ⟨n, r, m, q, e, e', h1, h2, h3, h4⟩
      · cases h
    · exact .inr h
  rcases key with ⟨n, r, m, q, rfl, rfl, h1, h2, h3, h4⟩ | h
  · obtain ⟨cs, rfl, c1, c2, c3, c4⟩ := hv
    have h1 : n = m := Nat.eq_of_beq_eq_true h1
    subst h1
    refine ⟨cs, rfl, c1, rowOk_ok h3, Nat.le_of_ble_eq_true h2, fun i y hy => ?_⟩
    have hi : i < n := by
      rcases Nat.lt_or_ge i n with g | g
      · exact g
      · rw [List.getElem?_eq_none (by omega)] at hy; cases hy
    obtain ⟨x, e1, e2⟩ := rowEq_ok n h4 i hi
    exact Rw_congr (e1.trans e2.symm) (c4 i y hy)
  · rw [← cellEq_ok h]; exact hv
theorem at_new {σ : St} {k k' : Blk} {b : Bid} (h : σ.h.at σ.nx = .none) (hb : σ.h.at b = k') (hk : k' ≠ .none) : (σ.new k).h.at b = k' := by
  rw [St.new_at, if_neg (fun e => by subst e; rw [h] at hb; exact hk hb.symm)]
  exact hb
def PuSt (P : Program) (op : Op) : I → Prop
  | .ev e => (∀ T σ σ', e T σ = e T σ') ∨ (readsA P op = true ∧ Stab e)
  | _ => True
theorem stab_ld1 (x : G) : Stab (ld1 x) := fun T σ k v h0 h => by
  unfold ld1 at h ⊢
  obtain ⟨b, o, e, h⟩ := onP_some h OA.ne
  rw [e]
  show ((σ.new k).h.at b).get o = _
  rw [at_new h0 rfl (fun hk => by rw [hk] at h; cases h)]
  exact h
theorem stab_ldN (n : Nat) (x : G) : Stab (ldN n x) := fun T σ k v h0 h => by
  unfold ldN at h ⊢
  obtain ⟨b, o, e, h⟩ := onP_some h OA.ne
  rw [e]
  show ((σ.new k).h.at b).getN o n = _
  rw [at_new h0 rfl (fun hk => by rw [hk] at h; cases h)]
  exact h
theorem stab_lkp (ks : Bool) (z : AV) (x y : G) (ok : Bool) : Stab (lkp ks z x y ok) := fun T σ k v h0 h => by
  unfold lkp at h ⊢
  obtain ⟨c, h⟩ := ifO_ok h
  rw [c]
  show mapOf _ _ _ _ = _
  unfold mapOf at h ⊢
  rcases onMp_or h with ⟨b, e, h⟩ | h
  · rw [e]
    show onMap ((σ.new k).h.at b) _ _ = _
    rw [e] at h
    rcases onMap_or h with ⟨es, cl, ek, _⟩ | h'
    · rw [at_new h0 rfl (fun hk => by rw [ek] at hk; cases hk)]
      exact h
    · cases h'
  · cases e : x T <;> rw [e] at h <;> first | exact h | cases h
theorem stab_cv_str (x : G) : Stab (cv_str x) := fun T σ k v h0 h => by
  unfold cv_str pkN at h ⊢
  rcases onSl_or h with ⟨b, o, l, c, w, kn, e, h⟩ | h
  · rw [e]
    show onPk ((σ.new k).h.at b) _ _ = _
    rcases onPk_or h with ⟨κ, t, n, m, ek, _⟩ | h'
    · rw [at_new h0 rfl (fun hk => by rw [ek] at hk; cases hk)]
      exact h
    · cases h'
  · cases e : x T <;> rw [e] at h <;> first | exact h | cases h
theorem stab_len_m (x : G) : Stab (len_m x) := fun T σ k v h0 h => by
  unfold len_m at h ⊢
  rcases onMp_or h with ⟨b, e, h⟩ | h
  · rw [e]
    show onMap ((σ.new k).h.at b) _ _ = _
    rcases onMap_or h with ⟨es, cl, ek, _⟩ | h'
    · rw [at_new h0 rfl (fun hk => by rw [ek] at hk; cases hk)]
      exact h
    · cases h'
  · cases e : x T <;> rw [e] at h <;> first | exact h | cases h
theorem stab_sl_a (n w : Nat) (x lo : G) (hi : Option G) : Stab (sl_a n w x lo hi) := fun T σ k v h0 h => by
  unfold sl_a at h ⊢
  obtain ⟨b, o, e, h⟩ := onP_some h OA.ne
  rw [e]
  show onCells ((σ.new k).h.at b) _ _ = _
  rcases onCells_or h with ⟨t, N, r, ek, _⟩ | h'
  · rw [at_new h0 rfl (fun hk => by rw [ek] at hk; cases hk)]
    exact h
  · cases h'
theorem pu_binI {P : Program} (op : BinOp) (t : TypeId) (x y : G) (T : Tm) (σ σ' : St) : binI P op t x y T σ = binI P op t x y T σ' := by
  obtain ⟨e, he⟩ : ∃ e, binI P op t x y = e := ⟨_, rfl⟩
  rw [he]
  unfold binI at he
  split at he
  all_goals first
    | (subst he; cases op <;> rfl)
    | (cases op <;> first | (subst he; rfl) | (cases hl : eqlA P t <;> rw [hl] at he <;> subst he <;> rfl))
theorem pu_unI {P : Program} (op : UnOp) (t : TypeId) (x : G) (T : Tm) (σ σ' : St) : unI P op t x T σ = unI P op t x T σ' := by
  obtain ⟨e, he⟩ : ∃ e, unI P op t x = e := ⟨_, rfl⟩
  rw [he]
  unfold unI at he
  split at he <;> subst he <;> rfl
section
variable {P : Program} {tab : FuncId → Fu} {vtab : Nat → Nat → Fu}
theorem pu_noE {op : Op} : PuSt P op (.ev noE) := .inl fun _ _ _ => rfl
theorem pu_cvI (src dst : TypeId) (x : Operand) : PuSt P (.convert src dst x) (cvI P src dst (opd x)) := by
  unfold cvI
  split
  all_goals first
    | exact .inl fun _ _ _ => rfl
    | trivial
    | skip
  · split
    · next h1 _ _ _ => exact .inr ⟨by simp [readsA, h1], stab_cv_str _⟩
    · trivial
  · split
    · split <;> trivial
    · trivial
  · split <;> trivial
theorem pu_slI (t : TypeId) (x : Operand) (lo hi mx : Option Operand) : PuSt P (.slice t x lo hi mx) (.ev (slI P t (opd x) lo hi mx)) := by
  unfold slI
  split
  · exact .inl fun _ _ _ => rfl
  · split <;> exact .inl fun _ _ _ => rfl
  · split <;> exact .inl fun _ _ _ => rfl
  · next hu =>
    split
    · split
      · split
        · exact .inr ⟨by simp [readsA, hu], stab_sl_a _ _ _ _ _⟩
        · exact pu_noE
      · exact pu_noE
    · exact pu_noE
  · next hu =>
    split
    · split
      · exact .inr ⟨by simp [readsA, hu], stab_sl_a _ _ _ _ _⟩
      · exact pu_noE
    · exact pu_noE
  · exact pu_noE
theorem pu_biI {c : Call} {b : Builtin} (hc : c.callee = .builtin b) : PuSt P (.call c) (biI P b (c.argTypes.getD 0 0) (c.argTypes.getD 1 0) c.args.toList) := by
  unfold biI
  split
  · unfold lenI
    split
    · split <;> exact .inl fun _ _ _ => rfl
    · split
      · split <;> exact .inl fun _ _ _ => rfl
      · exact pu_noE
    · exact .inl fun _ _ _ => rfl
    · exact .inl fun _ _ _ => rfl
    · next hu => exact .inr ⟨by simp [readsA, hc]; rw [show (c.argTypes[0]?).getD 0 = c.argTypes.getD 0 0 by rw [Array.getD_eq_getD_getElem?], hu], stab_len_m _⟩
    · exact pu_noE
  all_goals first
    | exact .inl fun _ _ _ => rfl
    | trivial
    | skip
  · split
    · exact .inl fun _ _ _ => rfl
    · trivial
  · split
    · split
      · trivial
      · split <;> trivial
    · trivial
  · split
    · split <;> trivial
    · trivial
  · split
    · split <;> trivial
    · trivial
theorem pust (o : Oper) : PuSt P o.op (denI P tab vtab o) := by
  obtain ⟨dst, op, ty, pos, af, gd⟩ := o
  unfold denI
  split <;> rename_i ho <;> first | trivial | (simp only at ho; subst ho)
  all_goals first
    | exact .inl fun _ _ _ => rfl
    | exact .inl fun T σ σ' => pu_binI _ _ _ _ T σ σ'
    | exact .inl fun T σ σ' => pu_unI _ _ _ T σ σ'
    | exact pu_cvI _ _ _
    | exact pu_slI _ _ _ _ _
    | skip
  all_goals first
    | (unfold callI
       split
       · split <;> trivial
       · trivial
       · next hc => exact pu_biI hc
       · trivial)
    | (unfold iadI
       repeat' split
       all_goals exact .inl fun _ _ _ => rfl)
    | (unfold ixI
       repeat' split
       all_goals exact .inl fun _ _ _ => rfl)
    | (repeat' split
       all_goals first
         | trivial
         | exact .inl fun _ _ _ => rfl
         | exact .inr ⟨rfl, stab_ld1 _⟩
         | exact .inr ⟨rfl, stab_ldN _ _⟩
         | exact .inr ⟨rfl, stab_lkp _ _ _ _ _⟩)
end
end Go.Proofs.YtaogloegiffioaaGreatDoor
namespace Go.Proofs.YtaogloegiffioaaGreatDoor
def allDst (t : Nat) (f : Nat → Bool) : List Oper → Nat → Bool
  | [], _ => true
  | o :: l, j => (match o.dst with
    | some d => match Nat.beq d t with
      | true => f j
      | false => true
    | none => true) && allDst t f l (j + 1)
theorem allDst_ok {t : Nat} {f : Nat → Bool} : ∀ (l : List Oper) (n : Nat), allDst t f l n = true → ∀ (j : Nat) (o : Oper), l[j]? = some o → o.dst = some t → f (n + j) = true
  | [], _, _, j, o, h, _ => by simp at h
  | o :: l, n, h, j, o', hj, hd => by
    obtain ⟨h1, h2⟩ := Bool.and_eq_true_iff.1 h
    cases j with
    | zero =>
      simp at hj; subst hj
      rw [hd] at h1
      simp only [Nat.beq_refl] at h1
      exact h1
    | succ j =>
      have := allDst_ok l (n + 1) h2 j o' (by simpa using hj) hd
      rwa [show n + (j + 1) = n + 1 + j by omega]
theorem allDst_of {ops : Array Oper} {t : Nat} {f : Nat → Bool} (h : allDst t f ops.toList 0 = true) {j : Nat} (hj : dstOf ops j = some t) : f j = true := by
  unfold dstOf at hj
  cases ho : ops[j]? with
  | none => rw [ho] at hj; cases hj
  | some o =>
    rw [ho] at hj
    have := allDst_ok ops.toList 0 h j o (by simpa using ho) hj
    rwa [Nat.zero_add] at this
section
variable (P : Program) (tab : FuncId → Fu) (vtab : Nat → Nat → Fu)
def opChk (nt : Nat) (ops : Array Oper) (A : List Nat) (i : Nat) (o : Oper) : Bool :=
  okOp P o && (A.getD i 0 == predsA A o && (o.after.toList.all (fun e => !Region.binds .any e || Nat.blt e.on i) && ((match o.dst with
    | some d => Nat.blt d nt && allDst d (fun j => Nat.beq j i) ops.toList 0
    | none => true) && ((o.looksAt ops).all (fun t => Nat.blt t 256 && allDst t (fun j => Nat.beq j i || (mem j (A.getD i 0) || mem i (A.getD j 0))) ops.toList 0) && (match o.guard with
    | some (j, _) => mem j (A.getD i 0)
    | none => true)))))
def allChk (nt : Nat) (ops : Array Oper) (A : List Nat) : List Oper → Nat → Bool
  | [], _ => true
  | o :: l, i => opChk P nt ops A i o && allChk nt ops A l (i + 1)
def ckbA (ops : Array Oper) (A : List Nat) (i D : Nat) : Bool := match ops[i]? with
  | some o => (o.looksAt ops).all fun t => allDst t (fun j => !mem j D || mem j (A.getD i 0)) ops.toList 0
  | none => false
noncomputable def drawOk (nt : Nat) (ops : Array Oper) : Bool :=
  (fun A ks rs => Nat.ble nt 256 && (allChk P nt ops A ops.toList 0 && okP ops.size (fun i => ks.getD i 2 == 2) (fun i => rs.getD i false) (fun i => A.getD i 0) (ckbA ops A) (planR P tab vtab ops) 0 [] none))
    (ancsA ops.toList []) (kindsA P tab vtab ops) (rdsA P tab vtab ops)
variable {P tab vtab}
theorem allChk_ok {nt : Nat} {ops : Array Oper} {A : List Nat} : ∀ (l : List Oper) (n : Nat), allChk P nt ops A l n = true → ∀ (j : Nat) (o : Oper), l[j]? = some o → opChk P nt ops A (n + j) o = true
  | [], _, _, j, o, h => by simp at h
  | o :: l, n, h, j, o', hj => by
    obtain ⟨h1, h2⟩ := Bool.and_eq_true_iff.1 h
    cases j with
    | zero => simp at hj; subst hj; exact h1
    | succ j =>
      have := allChk_ok l (n + 1) h2 j o' (by simpa using hj)
      rwa [show n + (j + 1) = n + 1 + j by omega]
theorem mem_or2 {j x y : Nat} : mem j (x ||| y) = (mem j x || mem j y) := by unfold mem; rw [Nat.testBit_or]
theorem preds_mem {anc : List Nat} {j : Nat} : ∀ (l : List Edge) (m : Nat), mem j (l.foldl (fun m e => if Region.binds .any e then m ||| (anc.getD e.on 0 ||| 2 ^ e.on) else m) m) = true →
    mem j m = true ∨ ∃ e ∈ l, Region.binds .any e = true ∧ (j = e.on ∨ mem j (anc.getD e.on 0) = true)
  | [], m, h => .inl h
  | e :: l, m, h => by
    rw [List.foldl_cons] at h
    rcases preds_mem l _ h with h | ⟨e', h1, h2⟩
    · cases hb : Region.binds .any e with
      | false => rw [hb] at h; exact .inl h
      | true =>
        rw [hb] at h
        simp only [if_true] at h
        rw [mem_or2, mem_or] at h
        rcases Bool.or_eq_true_iff.1 h with h | h
        · exact .inl h
        · refine .inr ⟨e, List.mem_cons_self, hb, ?_⟩
          rcases Bool.or_eq_true_iff.1 h with h | h
          · exact .inr h
          · exact .inl (of_decide_eq_true h).symm
    · exact .inr ⟨e', List.mem_cons_of_mem _ h1, h2⟩
theorem draw_F {nt : Nat} {ops : Array Oper} (hF : ∀ f, CallOk P f (tab f)) (hV : ∀ n f, CallOkV P f (vtab n f)) (h : drawOk P tab vtab nt ops = true) :
    ∃ ex rd anc ckb, RegF P tab vtab ops nt ex rd anc ckb ∧ okP ops.size ex rd anc ckb (planR P tab vtab ops) 0 [] none = true := by
  obtain ⟨h1, h⟩ := Bool.and_eq_true_iff.1 h
  obtain ⟨h2, h3⟩ := Bool.and_eq_true_iff.1 h
  refine ⟨_, _, _, _, ?_, h3⟩
  generalize hA : ancsA ops.toList [] = A at *
  have chk : ∀ (i : Nat) (o : Oper), ops[i]? = some o → opChk P nt ops A i o = true := fun i o ho => by
    have := allChk_ok ops.toList 0 h2 i o (by simpa using ho)
    rwa [Nat.zero_add] at this
  have split : ∀ (i : Nat) (o : Oper), ops[i]? = some o → okOp P o = true ∧ A.getD i 0 = predsA A o ∧ (∀ e ∈ o.after, Region.binds .any e = true → e.on < i) ∧ (∀ d, o.dst = some d → d < nt ∧ ∀ j, dstOf ops j = some d → j = i) ∧
      (∀ t ∈ o.looksAt ops, t < 256 ∧ ∀ j, dstOf ops j = some t → j ≠ i → mem j (A.getD i 0) = true ∨ mem i (A.getD j 0) = true) ∧ (∀ j b, o.guard = some (j, b) → mem j (A.getD i 0) = true) := fun i o ho => by
    obtain ⟨c1, c⟩ := Bool.and_eq_true_iff.1 (chk i o ho)
    obtain ⟨c2, c⟩ := Bool.and_eq_true_iff.1 c
    obtain ⟨c3, c⟩ := Bool.and_eq_true_iff.1 c
    obtain ⟨c4, c⟩ := Bool.and_eq_true_iff.1 c
    obtain ⟨c5, c6⟩ := Bool.and_eq_true_iff.1 c
    refine ⟨c1, by simpa using c2, fun e he hb => ?_, fun d hd => ?_, fun t ht => ?_, fun j b hg => ?_⟩
    · have := List.all_eq_true.1 c3 e (by simpa using he)
      rw [hb] at this
      simpa using this
    · rw [hd] at c4
      obtain ⟨d1, d2⟩ := Bool.and_eq_true_iff.1 c4
      exact ⟨by simpa using d1, fun j hj => Nat.eq_of_beq_eq_true (allDst_of d2 hj)⟩
    · have := List.all_eq_true.1 c5 t ht
      obtain ⟨d1, d2⟩ := Bool.and_eq_true_iff.1 this
      refine ⟨by simpa using d1, fun j hj hne => ?_⟩
      rcases Bool.or_eq_true_iff.1 (allDst_of d2 hj) with g | g
      · exact absurd (Nat.eq_of_beq_eq_true g) hne
      · exact Bool.or_eq_true_iff.1 g
    · rw [hg] at c6; exact c6
  have hks : ∀ (i : Nat) (o : Oper), ops[i]? = some o → (kindsA P tab vtab ops).getD i 2 = kindI (denI P tab vtab o) := fun i o ho => by
    unfold kindsA
    rw [List.getD_eq_getElem?_getD, List.getElem?_map, show ops.toList[i]? = some o by simpa using ho]; rfl
  have hrs : ∀ (i : Nat) (o : Oper), ops[i]? = some o → (rdsA P tab vtab ops).getD i false = (kindI (denI P tab vtab o) == 0 && readsA P o.op) := fun i o ho => by
    unfold rdsA
    rw [List.getD_eq_getElem?_getD, List.getElem?_map, show ops.toList[i]? = some o by simpa using ho]; rfl
  have hget : ∀ (i d : Nat), dstOf ops i = some d → ∃ o, ops[i]? = some o ∧ o.dst = some d := fun i d hd => by
    unfold dstOf at hd
    cases ho : ops[i]? with
    | none => rw [ho] at hd; cases hd
    | some o => rw [ho] at hd; exact ⟨o, rfl, hd⟩
  constructor
  · exact Nat.le_of_ble_eq_true h1
  · intro i o ho j hj
    have hj : mem j (A.getD i 0) = true := hj
    rw [(split i o ho).2.1] at hj
    unfold predsA at hj
    rcases preds_mem o.after.toList 0 hj with g | ⟨e, g1, g2⟩
    · unfold mem at g; rw [Nat.zero_testBit] at g; cases g
    · exact ⟨e, by simpa using g1, g2⟩
  · intro i o ho e he hb; exact (split i o ho).2.2.1 e he hb
  · intro i d hd
    obtain ⟨o, ho, hd⟩ := hget i d hd
    exact ((split i o ho).2.2.2.1 d hd).1
  · intro i o ho t ht; exact ((split i o ho).2.2.2.2.1 t ht).1
  · intro i j d hi hj
    obtain ⟨o, ho, hd⟩ := hget i d hi
    exact (((split i o ho).2.2.2.1 d hd).2 j hj).symm
  · intro i o ho t ht j hj hne; exact ((split i o ho).2.2.2.2.1 t ht).2 j hj hne
  · intro i o j b ho hg; exact (split i o ho).2.2.2.2.2 j b hg
  · intro i o ho
    show (((kindsA P tab vtab ops).getD i 2 == 2) = true ↔ _)
    rw [hks i o ho]
    cases hd : denI P tab vtab o with
    | ev e => simp [kindI]
    | nw e => simp [kindI]
    | ex e => simp [kindI]
  · intro i o e ho hd hr
    have hr : (rdsA P tab vtab ops).getD i false = false := hr
    rw [hrs i o ho, hd] at hr
    have := pust (P := P) (tab := tab) (vtab := vtab) o
    rw [hd] at this
    rcases this with g | ⟨g, _⟩
    · exact g
    · rw [g] at hr; cases hr
  · intro i o ho; exact op_ok hF hV o (split i o ho).1
  · intro i o e ho hd
    have := pust (P := P) (tab := tab) (vtab := vtab) o
    rw [hd] at this
    rcases this with g | ⟨_, g⟩
    · exact fun T σ k v _ he => (g T _ _).trans he
    · exact g
  · intro i o D ho hc t ht j hj hm
    have hc : ckbA ops A i D = true := hc
    unfold ckbA at hc
    rw [ho] at hc
    have := allDst_of (List.all_eq_true.1 hc t ht) hj
    rw [hm] at this
    simpa using this
  · exact avEq_ok
end
end Go.Proofs.YtaogloegiffioaaGreatDoor
namespace Go.Proofs.YtaogloegiffioaaGreatDoor
def RT (nt : Nat) (ρ : Pl) (T : Tm) (a : Act) : Prop := nt ≤ a.tmps.size ∧ ∀ t, t < 256 → Rv ρ (getN t T) (a.tmps.getD t undef)
theorem RT.mono {nt : Nat} {ρ ρ' : Pl} {T : Tm} {a : Act} (h : RT nt ρ T a) (hs : Sub ρ ρ') : RT nt ρ' T a := ⟨h.1, fun t ht => Rv.mono hs _ _ (h.2 t ht)⟩
theorem RT.put {nt : Nat} {ρ : Pl} {T : Tm} {a : Act} {o : Option Tmp} {v : AV} {X : Value} (h : RT nt ρ T a) (hn : nt ≤ 256) (hd : ∀ d, o = some d → d < nt) (hX : Rv ρ v X) : RT nt ρ (setA o T v) (a.put o X) := by
  refine ⟨by rw [put_size]; exact h.1, fun t ht => ?_⟩
  by_cases hot : o = some t
  · subst hot
    have := hd t rfl
    rw [getN_setA_self ht, put_get_self (Nat.lt_of_lt_of_le this h.1)]
    exact hX
  · rw [put_get_ne hot, getN_setA ht fun d hd' => ⟨Nat.lt_of_lt_of_le (hd d hd') hn, fun e => hot (by rw [hd', e])⟩]
    exact h.2 t ht
section
variable (P : Program) (tab : FuncId → Fu) (vtab : Nat → Nat → Fu)
def seqChk (nt : Nat) (ops : Array Oper) : List Oper → Bool
  | [] => true
  | o :: l => (okOp P o && ((match o.dst with
    | some d => Nat.blt d nt
    | none => true) && (o.looksAt ops).all (fun t => Nat.blt t 256))) && seqChk nt ops l
noncomputable def regOk (nt : Nat) (ops : Array Oper) (d : Bool) : Bool := match d with
  | false => Nat.ble nt 256 && seqChk P nt ops ops.toList
  | true => drawOk P tab vtab nt ops
def opndOk : Operand → Bool
  | .tmp t => Nat.blt t 256
  | _ => true
noncomputable def codeOk (nt : Nat) : Code → Bool
  | .skip => true
  | .label _ => true
  | .region _ ops d => regOk P tab vtab nt ops d
  | .seq a b => codeOk nt a && codeOk nt b
  | .cond c a b => opndOk c && (codeOk nt a && codeOk nt b)
  | .block _ c => codeOk nt c
  | .loop c => codeOk nt c
  | .exit _ => true
  | .scope c => codeOk nt c
  | .ret => true
  | _ => false
def RPost (nt : Nat) (ρ0 : Pl) (σ0 : St) (w0 : World) (a0 : Act) : RC → Exit → Act → World → Prop
  | .normal T σ, .normal, a, w => ∃ ρ, RT nt ρ T a ∧ RS ρ σ w ∧ Step σ0 ρ0 w0 σ ρ w ∧ a.defers = a0.defers
  | .exit i T σ, .exit j, a, w => i = j ∧ ∃ ρ, RT nt ρ T a ∧ RS ρ σ w ∧ Step σ0 ρ0 w0 σ ρ w ∧ a.defers = a0.defers
  | .ret T σ, .ret, a, w => ∃ ρ, RT nt ρ T a ∧ RS ρ σ w ∧ Step σ0 ρ0 w0 σ ρ w ∧ a.defers = a0.defers
  | _, _, _, _ => False
variable {P tab vtab}
theorem RPost.trans {nt : Nat} {ρ0 ρ1 : Pl} {σ0 σ1 : St} {w0 w1 : World} {a0 a1 : Act} (h : Step σ0 ρ0 w0 σ1 ρ1 w1) (hd : a1.defers = a0.defers) {r : RC} {e : Exit} {a : Act} {w : World} (g : RPost nt ρ1 σ1 w1 a1 r e a w) : RPost nt ρ0 σ0 w0 a0 r e a w := by
  cases r <;> cases e <;> first
    | (obtain ⟨ρ, g1, g2, g3, g4⟩ := g; exact ⟨ρ, g1, g2, h.trans g3, g4.trans hd⟩)
    | (obtain ⟨g0, ρ, g1, g2, g3, g4⟩ := g; exact ⟨g0, ρ, g1, g2, h.trans g3, g4.trans hd⟩)
    | exact g.elim
theorem seq_op {nt : Nat} {ops : Array Oper} {Q : Exit → Act → World → Prop} (hn : nt ≤ 256) {i : Nat} {o : Oper} (ho : ops[i]? = some o) (hso : IOk P o (denI P tab vtab o)) (hd : ∀ d, o.dst = some d → d < nt) (hl : ∀ t ∈ o.looksAt ops, t < 256)
    {ρ : Pl} {T : Tm} {σ σ' : St} {a : Act} {w : World} {v : AV} (hT : RT nt ρ T a) (hs : RS ρ σ w) (h : StepV P tab vtab ops o T σ v σ') {K : Act → World → Prop}
    (hK : ∀ (ρ' : Pl) (a' : Act) (w' : World), RT nt ρ' (setA o.dst T v) a' → RS ρ' σ' w' → Step σ ρ w σ' ρ' w' → a'.defers = a.defers → K a' w') : wpOp P ops Q i K a w := by
  have hw : ∀ b, wantsA ops o T = some b → Region.wanted o (yielded ops a.tmps) = b := fun b hb => wanted_ok hb fun j b d hg hd => hT.2 d (hl d (looks_guard hg hd))
  have hsl : Slots ρ T a o.op := slots_of_looks fun t ht => hT.2 t (hl t ht)
  have fin : ∀ (ρ' : Pl) (X : Value) (w' : World), Rv ρ' v X → RS ρ' σ' w' → Step σ ρ w σ' ρ' w' → K (a.put o.dst X) w' := fun ρ' X w' hX h1 h2 =>
    hK ρ' _ w' ((hT.mono h2.sub).put hn hd hX) h1 h2 (put_defers _ _ _)
  rcases h with ⟨h1, rfl, rfl⟩ | ⟨h1, h⟩
  · exact wpOp_of ho (hw _ h1) (fun h => by cases h) fun _ => fin ρ undef w rfl hs (Step.refl _ _ _)
  · refine wpOp_of ho (hw _ h1) (fun _ => ?_) (fun h => by cases h)
    cases hden : denI P tab vtab o with
    | ev e =>
      rw [hden] at h hso
      obtain ⟨h2, rfl⟩ := h
      obtain ⟨X, g1, g2⟩ := hso ρ T σ' w a v hsl hs h2
      unfold Oper.wp
      rw [g1]
      exact fin ρ X w g2 hs (Step.refl _ _ _)
    | nw e =>
      rw [hden] at h hso
      obtain ⟨k, f, h2, h3, rfl, rfl⟩ := h
      obtain ⟨X, w', g1, g2⟩ := hso ρ T w a k f hsl h2
      obtain ⟨ρ', k1, k2, k3⟩ := nres_ok hs h3 g2
      unfold Oper.wp
      rw [g1]
      exact fin ρ' X w' k1 k2 k3
    | ex e =>
      rw [hden] at h hso
      exact hso ρ T σ w a v σ' hsl hs h K Q fin
theorem seq_ok (hF : ∀ f, CallOk P f (tab f)) (hV : ∀ n f, CallOkV P f (vtab n f)) {nt : Nat} {ops : Array Oper} (hn : nt ≤ 256) {k : C} {r : RC} (hr : r ≠ .no) {Q : Exit → Act → World → Prop} :
    ∀ (l : List Oper) (i : Nat), ops.toList.drop i = l → seqChk P nt ops l = true → ∀ (ρ : Pl) (T : Tm) (σ : St) (a : Act) (w : World), RT nt ρ T a → RS ρ σ w → chain P tab vtab ops l k T σ = r →
      (∀ (ρ' : Pl) (T' : Tm) (σ' : St) (a' : Act) (w' : World), RT nt ρ' T' a' → RS ρ' σ' w' → Step σ ρ w σ' ρ' w' → a'.defers = a.defers → k T' σ' = r → Q .normal a' w') → wpOps P ops Q (List.range' i l.length) a w
  | [], i, _, _, ρ, T, σ, a, w, hT, hs, h, hQ => hQ ρ T σ a w hT hs (Step.refl _ _ _) rfl h
  | o :: l, i, hl, hc, ρ, T, σ, a, w, hT, hs, h, hQ => by
    obtain ⟨c, c3⟩ := Bool.and_eq_true_iff.1 hc
    obtain ⟨c0, c⟩ := Bool.and_eq_true_iff.1 c
    obtain ⟨c1, c2⟩ := Bool.and_eq_true_iff.1 c
    have ho : ops[i]? = some o := by
      have := congrArg (fun l => l[0]?) hl
      simpa using this
    have hl' : ops.toList.drop (i + 1) = l := by
      have := congrArg List.tail hl
      simpa using this
    obtain ⟨v, σ', h1, h2⟩ := step1_ok (show step1 P tab vtab ops o (chain P tab vtab ops l k) T σ = r from h) hr
    rw [List.length_cons, List.range'_succ, wpOps_cons]
    refine seq_op hn ho (op_ok hF hV o c0) (fun d hd => ?_) (fun t ht => ?_) hT hs h1 fun ρ' a' w' g1 g2 g3 g4 => ?_
    · rw [hd] at c1; simpa using c1
    · have := List.all_eq_true.1 c2 t ht
      simpa using this
    · exact seq_ok hF hV hn hr l (i + 1) hl' c3 ρ' _ σ' a' w' g1 g2 h2 fun ρ2 T2 σ2 a2 w2 k1 k2 k3 k4 k5 => hQ ρ2 T2 σ2 a2 w2 k1 k2 (g3.trans k3) (k4.trans g4) k5
theorem drew_RS {ρ : Pl} {σ : St} {w : World} (h : RS ρ σ w) : RS ρ σ { w with drawn := w.drawn + 1 } ∧ Step σ ρ w σ ρ { w with drawn := w.drawn + 1 } :=
  ⟨h.draw rfl, Step.draw rfl rfl rfl rfl⟩
theorem reg_ok (hm : P.follows .mixedOrders = true) (hF : ∀ f, CallOk P f (tab f)) (hV : ∀ n f, CallOkV P f (vtab n f)) {nt : Nat} {ops : Array Oper} {id : Nat} {d : Bool} (hc : regOk P tab vtab nt ops d = true) {k : C} {r : RC} (hr : r ≠ .no)
    {Q : Exit → Act → World → Prop} {ρ : Pl} {T : Tm} {σ : St} {a : Act} {w : World} (hT : RT nt ρ T a) (hs : RS ρ σ w) (h : regC P tab vtab ops d k T σ = r)
    (hQ : ∀ (ρ' : Pl) (T' : Tm) (σ' : St) (a' : Act) (w' : World), RT nt ρ' T' a' → RS ρ' σ' w' → Step σ ρ w σ' ρ' w' → a'.defers = a.defers → k T' σ' = r → Q .normal a' w') : (Code.region id ops d).wp P Q a w := by
  cases d with
  | false =>
    obtain ⟨c1, c2⟩ := Bool.and_eq_true_iff.1 (show (Nat.ble nt 256 && seqChk P nt ops ops.toList) = true from hc)
    refine wp_region ?_
    have := seq_ok hF hV (Nat.le_of_ble_eq_true c1) hr (k := k) (Q := Q) ops.toList 0 (by simp) c2 ρ T σ a w hT hs h hQ
    rwa [List.range_eq_range', ← Array.length_toList]
  | true =>
    obtain ⟨ex, rd, anc, ckb, F, hk⟩ := draw_F hF hV (show drawOk P tab vtab nt ops = true from hc)
    obtain ⟨T2, σ2, h1, h2⟩ := chainP_run hr _ T σ (show chainP P tab vtab ops (planR P tab vtab ops) k T σ = r from h)
    obtain ⟨d1, d2⟩ := drew_RS hs
    exact wp_region_any hm (region_any F hk h1 d1 hT.1 hT.2 fun ρ' a' w' g1 g2 g3 g4 g5 => hQ ρ' T2 σ2 a' w' ⟨g3, g4⟩ g1 (d2.trans g2) g5 h2)
theorem loop_ok {nt : Nat} {c : Code} {f : C} {r : RC} (hr : r ≠ .no)
    (hc : ∀ (ρ : Pl) (T : Tm) (σ : St) (a : Act) (w : World) (r : RC), RT nt ρ T a → RS ρ σ w → f T σ = r → r ≠ .no → c.wp P (RPost nt ρ σ w a r) a w) (b : Frame) (k : List Item) (cs : List Frame) :
    ∀ (n : Nat) (ρ : Pl) (T : Tm) (σ : St) (a : Act) (w : World), RT nt ρ T a → RS ρ σ w → lp n f T σ = r → ∃ e a' w', RPost nt ρ σ w a r e a' w' ∧ Arrives P (lone (b.at a (.code c :: .inLoop c :: k)) cs w) b k cs e a' w'
  | 0, ρ, T, σ, a, w, _, _, h => absurd h.symm hr
  | n + 1, ρ, T, σ, a, w, hT, hs, h => by
    have h : RC.rec (motive := fun _ => RC) .no (fun T σ => lp n f T σ) .exit .ret (f T σ) = r := h
    cases hf : f T σ with
    | no => rw [hf] at h; exact absurd h.symm hr
    | normal T1 σ1 =>
      rw [hf] at h
      obtain ⟨e, a1, w1, hq, harr⟩ := hc ρ T σ a w _ hT hs hf (by simp) b (.inLoop c :: k) cs
      cases e <;> try exact hq.elim
      obtain ⟨ρ1, g1, g2, g3, g4⟩ := hq
      obtain ⟨e2, a2, w2, hq2, harr2⟩ := loop_ok hr hc b k cs n ρ1 T1 σ1 a1 w1 g1 g2 h
      exact ⟨e2, a2, w2, RPost.trans g3 g4 hq2, .of_steps (Steps.trans harr (.one step_inLoop)) harr2⟩
    | exit i T1 σ1 =>
      rw [hf] at h
      obtain ⟨e, a1, w1, hq, harr⟩ := hc ρ T σ a w _ hT hs hf (by simp) b (.inLoop c :: k) cs
      subst h
      refine ⟨e, a1, w1, hq, ?_⟩
      cases e <;> try exact hq.elim
      exact .pass (x := .inLoop c) rfl (fun _ _ => .inl (by simp)) harr
    | ret T1 σ1 =>
      rw [hf] at h
      obtain ⟨e, a1, w1, hq, harr⟩ := hc ρ T σ a w _ hT hs hf (by simp) b (.inLoop c :: k) cs
      subst h
      refine ⟨e, a1, w1, hq, ?_⟩
      cases e <;> try exact hq.elim
      exact .pass (x := .inLoop c) rfl (fun _ _ => .inl (by simp)) harr
theorem sq_cases {x y : C} {T : Tm} {σ : St} {r : RC} (h : sq x y T σ = r) (hr : r ≠ .no) : (∃ T1 σ1, x T σ = .normal T1 σ1 ∧ y T1 σ1 = r) ∨ ((∀ T1 σ1, x T σ ≠ .normal T1 σ1) ∧ x T σ = r) := by
  unfold sq at h
  cases hx : x T σ with
  | no => rw [hx] at h; exact absurd h.symm hr
  | normal T1 σ1 => rw [hx] at h; exact .inl ⟨T1, σ1, rfl, h⟩
  | exit i T1 σ1 => rw [hx] at h; exact .inr ⟨fun _ _ e => (by cases e), h⟩
  | ret T1 σ1 => rw [hx] at h; exact .inr ⟨fun _ _ e => (by cases e), h⟩
theorem code_ok (hm : P.follows .mixedOrders = true) (hF : ∀ f, CallOk P f (tab f)) (hV : ∀ n f, CallOkV P f (vtab n f)) {nt : Nat} : ∀ (c : Code), codeOk P tab vtab nt c = true →
    ∀ (ρ : Pl) (T : Tm) (σ : St) (a : Act) (w : World) (r : RC), RT nt ρ T a → RS ρ σ w → denC P tab vtab c T σ = r → r ≠ .no → c.wp P (RPost nt ρ σ w a r) a w := by
  have reg : ∀ (id : Nat) (ops : Array Oper) (d : Bool), codeOk P tab vtab nt (.region id ops d) = true → ∀ (ρ : Pl) (T : Tm) (σ : St) (a : Act) (w : World) (r : RC), RT nt ρ T a → RS ρ σ w → regC P tab vtab ops d nd T σ = r → r ≠ .no → (Code.region id ops d).wp P (RPost nt ρ σ w a r) a w :=
    fun id ops d hc ρ T σ a w r hT hs h hr => reg_ok hm hF hV (show regOk P tab vtab nt ops d = true from hc) hr hT hs h fun ρ' T' σ' a' w' g1 g2 g3 g4 g5 => by
      subst g5; exact ⟨ρ', g1, g2, g3, g4⟩
  intro c
  induction c with
  | skip => intro _ ρ T σ a w r hT hs h hr; subst h; exact wp_skip ⟨ρ, hT, hs, Step.refl _ _ _, rfl⟩
  | label l => intro _ ρ T σ a w r hT hs h hr; subst h; exact wp_label ⟨ρ, hT, hs, Step.refl _ _ _, rfl⟩
  | region id ops d => intro hc ρ T σ a w r hT hs h hr; exact reg id ops d hc ρ T σ a w r hT hs h hr
  | seq x y ihx ihy =>
    intro hc ρ T σ a w r hT hs h hr
    obtain ⟨c1, c2⟩ := Bool.and_eq_true_iff.1 (show (codeOk P tab vtab nt x && codeOk P tab vtab nt y) = true from hc)
    have gen : sq (denC P tab vtab x) (denC P tab vtab y) T σ = r → (Code.seq x y).wp P (RPost nt ρ σ w a r) a w := fun h => by
      refine wp_seq ?_
      rcases sq_cases h hr with ⟨T1, σ1, h1, h2⟩ | ⟨h1, h2⟩
      · refine wp_mono (ihx c1 ρ T σ a w _ hT hs h1 (by simp)) fun e a1 w1 hq => ?_
        cases e <;> try exact hq.elim
        obtain ⟨ρ1, g1, g2, g3, g4⟩ := hq
        exact wp_mono (ihy c2 ρ1 T1 σ1 a1 w1 r g1 g2 h2 hr) fun e a2 w2 hq => RPost.trans g3 g4 hq
      · refine wp_mono (ihx c1 ρ T σ a w r hT hs h2 hr) fun e a1 w1 hq => ?_
        cases e with
        | normal =>
          cases r <;> first | exact hq.elim | exact absurd h2 (h1 _ _)
        | _ => exact hq
    cases x with
    | region id ops d =>
      have h : regC P tab vtab ops d (denC P tab vtab y) T σ = r := h
      exact wp_seq (reg_ok hm hF hV (show regOk P tab vtab nt ops d = true from c1) hr hT hs h fun ρ1 T1 σ1 a1 w1 g1 g2 g3 g4 g5 =>
        wp_mono (ihy c2 ρ1 T1 σ1 a1 w1 r g1 g2 g5 hr) fun e a2 w2 hq => RPost.trans g3 g4 hq)
    | _ => exact gen h
  | cond c x y ihx ihy =>
    intro hc ρ T σ a w r hT hs h hr
    obtain ⟨c0, cc⟩ := Bool.and_eq_true_iff.1 (show (opndOk c && (codeOk P tab vtab nt x && codeOk P tab vtab nt y)) = true from hc)
    obtain ⟨c1, c2⟩ := Bool.and_eq_true_iff.1 cc
    have h : onB (opd c T) (fun t => Bool.rec (denC P tab vtab y T σ) (denC P tab vtab x T σ) t) .no = r := h
    rcases onB_or h with ⟨t, e, h⟩ | h
    · have hv := opd_ok (ρ := ρ) (T := T) (a := a) c fun t ht => hT.2 t (by subst ht; simpa [opndOk] using c0)
      rw [e] at hv
      have hv : a.eval c = .bool t := hv
      cases t with
      | true => exact wp_cond_true hv (ihx c1 ρ T σ a w r hT hs h hr)
      | false => exact wp_cond_false hv (ihy c2 ρ T σ a w r hT hs h hr)
    · exact absurd h.symm hr
  | block id c ih =>
    intro hc ρ T σ a w r hT hs h hr
    have h : RC.rec (motive := fun _ => RC) .no .normal (fun i T σ => Bool.rec (.exit i T σ) (.normal T σ) (Nat.beq i id)) .ret (denC P tab vtab c T σ) = r := h
    refine wp_block (wp_mono (ih hc ρ T σ a w _ hT hs rfl (fun e => by rw [e] at h; exact hr h.symm)) fun e a1 w1 hq => ?_)
    cases hd : denC P tab vtab c T σ with
    | no => rw [hd] at h; exact absurd h.symm hr
    | normal T1 σ1 =>
      rw [hd] at h hq
      subst h
      cases e <;> first | exact hq | exact hq.elim
    | exit i T1 σ1 =>
      rw [hd] at h hq
      cases e <;> try exact hq.elim
      obtain ⟨rfl, hq⟩ := hq
      show (if i = id then _ else _)
      cases hb : Nat.beq i id with
      | true =>
        rw [if_pos (Nat.eq_of_beq_eq_true hb)]
        simp only [hb] at h
        subst h
        exact hq
      | false =>
        rw [if_neg (Nat.ne_of_beq_eq_false hb)]
        simp only [hb] at h
        subst h
        exact ⟨rfl, hq⟩
    | ret T1 σ1 =>
      rw [hd] at h hq
      subst h
      cases e <;> first | exact hq | exact hq.elim
  | loop c ih =>
    intro hc ρ T σ a w r hT hs h hr b k cs
    obtain ⟨e, a1, w1, hq, harr⟩ := loop_ok (c := c) hr (ih hc) b k cs 100000 ρ T σ a w hT hs h
    exact ⟨e, a1, w1, hq, .of_steps (.one step_loop) harr⟩
  | exit id => intro _ ρ T σ a w r hT hs h hr; subst h; exact wp_exit ⟨rfl, ρ, hT, hs, Step.refl _ _ _, rfl⟩
  | scope c ih =>
    intro hc ρ T σ a w r hT hs h hr
    refine wp_scope_straight (wp_mono (ih hc ρ T σ a w r hT hs h hr) fun e a1 w1 hq => ?_)
    cases e with
    | goto l => cases r <;> exact hq.elim
    | _ => exact hq
  | ret => intro _ ρ T σ a w r hT hs h hr; subst h; exact wp_ret ⟨ρ, hT, hs, Step.refl _ _ _, rfl⟩
  | rangeFunc f p x y => intro hc; cases hc
  | goto l => intro hc; cases hc
  | refuse s => intro hc; cases hc
end
end Go.Proofs.YtaogloegiffioaaGreatDoor
namespace Go.Proofs.YtaogloegiffioaaGreatDoor
section
variable {P : Program}
theorem kind_same (tab tab' : FuncId → Fu) (vtab vtab' : Nat → Nat → Fu) (o : Oper) : kindI (denI P tab vtab o) = kindI (denI P tab' vtab' o) := by
  obtain ⟨dst, op, ty, pos, af, gd⟩ := o
  cases op with
  | call c =>
    show kindI (callI P tab vtab c) = kindI (callI P tab' vtab' c)
    obtain ⟨cal, args, ts⟩ := c
    cases cal with
    | value f =>
      cases f with
      | func f =>
        show kindI (match argsT args.toList with
          | some l => .ex (cl (tab f) l)
          | none => noI) = kindI (match argsT args.toList with
          | some l => .ex (cl (tab' f) l)
          | none => noI)
        cases argsT args.toList <;> rfl
      | _ => rfl
    | _ => rfl
  | makeFunc fn first caps => cases fn <;> rfl
  | makeMap t r => cases r <;> rfl
  | next it b => cases b <;> rfl
  | _ => rfl
theorem kinds_same (tab tab' : FuncId → Fu) (vtab vtab' : Nat → Nat → Fu) (ops : Array Oper) : kindsA P tab vtab ops = kindsA P tab' vtab' ops := by
  unfold kindsA
  exact List.map_congr_left fun o _ => kind_same tab tab' vtab vtab' o
theorem rds_same (tab tab' : FuncId → Fu) (vtab vtab' : Nat → Nat → Fu) (ops : Array Oper) : rdsA P tab vtab ops = rdsA P tab' vtab' ops := by
  unfold rdsA
  exact List.map_congr_left fun o _ => by rw [kind_same tab tab' vtab vtab' o]
theorem draw_same (tab tab' : FuncId → Fu) (vtab vtab' : Nat → Nat → Fu) (nt : Nat) (ops : Array Oper) : drawOk P tab vtab nt ops = drawOk P tab' vtab' nt ops := by
  unfold drawOk planR
  rw [kinds_same tab tab' vtab vtab' ops, rds_same tab tab' vtab vtab' ops]
theorem reg_same (tab tab' : FuncId → Fu) (vtab vtab' : Nat → Nat → Fu) (nt : Nat) (ops : Array Oper) (d : Bool) : regOk P tab vtab nt ops d = regOk P tab' vtab' nt ops d := by
  cases d
  · rfl
  · exact draw_same tab tab' vtab vtab' nt ops
theorem code_same (tab tab' : FuncId → Fu) (vtab vtab' : Nat → Nat → Fu) (nt : Nat) (c : Code) : codeOk P tab vtab nt c = codeOk P tab' vtab' nt c := by
  induction c with
  | region id ops d => exact reg_same tab tab' vtab vtab' nt ops d
  | seq a b iha ihb => unfold codeOk; rw [iha, ihb]
  | cond c a b iha ihb => unfold codeOk; rw [iha, ihb]
  | block id c ih => unfold codeOk; exact ih
  | loop c ih => unfold codeOk; exact ih
  | scope c ih => unfold codeOk; exact ih
  | _ => rfl
def resChk : ResultVar → Bool
  | .tmp t => Nat.blt t 256
  | .cell a _ => Nat.blt a 256
theorem load_cell {ρ : Pl} {T : Tm} {σ : St} {w : World} {x : G} {X : Value} {v : AV} {t : TypeId} {e : E} (hx : Rv ρ (x T) X) (he : ∃ b o, x T = .p b o) (h : ∃ y, (Instr.loadAt t X).run P w = .ok y w ∧ Rv ρ v y) : ∃ y, (do loadVar t (← asAddr X) : Sem Value).run P w = .ok y w ∧ Rv ρ v y := by
  obtain ⟨b, o, e1⟩ := he
  rw [e1] at hx
  obtain ⟨L, _, rfl⟩ := hx
  obtain ⟨y, h1, h2⟩ := h
  refine ⟨y, ?_, h2⟩
  simpa [Instr.loadAt, Instr.sureAddr, asAddr] using h1
theorem resE_ok {nt : Nat} {ρ : Pl} {T : Tm} {σ : St} {w : World} {a : Act} {v : AV} (hT : RT nt ρ T a) (hs : RS ρ σ w) (r : ResultVar) (hc : resChk r = true) (h : resE P r T σ = .ok v) :
    ∃ X, (match r with
      | .tmp t => pure (a.tmps.getD t undef)
      | .cell c t => do loadVar t (← asAddr (a.tmps.getD c undef)) : Sem Value).run P w = .ok X w ∧ Rv ρ v X := by
  cases r with
  | tmp t =>
    injection h with h; subst h
    exact ⟨_, rfl, hT.2 t (by simpa [resChk] using hc)⟩
  | cell c t =>
    have hv := hT.2 c (by simpa [resChk] using hc)
    obtain ⟨e, he⟩ : ∃ e, resE P (.cell c t) = e := ⟨_, rfl⟩
    rw [he] at h
    unfold resE at he
    simp only at he
    split at he <;> subst he
    · next ha hn =>
      obtain ⟨b, o, e1, _⟩ := onP_some (show onP (getN c T) _ _ = _ from h) OA.ne
      exact load_cell (σ := σ) (e := noE) hv ⟨b, o, e1⟩ (ldN_ok hs ha hn hv h)
    · next ha =>
      obtain ⟨b, o, e1, _⟩ := onP_some (show onP (getN c T) _ _ = _ from h) OA.ne
      exact load_cell (σ := σ) (e := noE) hv ⟨b, o, e1⟩ (ld1_ok hs ha hv h)
    · cases h
theorem bindL_ok {nt : Nat} {ρ : Pl} {T : Tm} {σ : St} {w : World} {a : Act} (hT : RT nt ρ T a) (hs : RS ρ σ w) : ∀ (l : List ResultVar) (k : AVs → OA) (v : AV), l.all resChk = true → bindL (l.map (resE P)) T σ k = .ok v →
    ∃ vs Xs, k vs = .ok v ∧ Rvs ρ vs Xs ∧ Xs.length = l.length ∧ (l.mapM (fun r => match r with
      | .tmp t => pure (a.tmps.getD t undef)
      | .cell c t => do loadVar t (← asAddr (a.tmps.getD c undef)) : ResultVar → Sem Value)).run P w = .ok Xs w
  | [], k, v, _, h => ⟨.nil, [], h, rfl, rfl, rfl⟩
  | r :: l, k, v, hc, h => by
    obtain ⟨c1, c2⟩ := Bool.and_eq_true_iff.1 (show (resChk r && l.all resChk) = true from hc)
    obtain ⟨u, h1, h2⟩ := bind_ok (show OA.bind (resE P r T σ) (fun v => bindL (l.map (resE P)) T σ fun vs => k (.cons v vs)) = .ok v from h)
    obtain ⟨X, g1, g2⟩ := resE_ok hT hs r c1 h1
    obtain ⟨vs, Xs, k1, k2, k4, k3⟩ := bindL_ok hT hs l _ v c2 h2
    refine ⟨.cons u vs, X :: Xs, k1, ⟨X, Xs, rfl, g2, k2⟩, by simp [k4], ?_⟩
    rw [List.mapM_cons]
    simp only [Sem.run_bind, g1, Result.andThen_ok, k3, Sem.run_pure]
theorem res_ok {nt : Nat} {ρ : Pl} {T : Tm} {σ : St} {w : World} {a : Act} {v : AV} (hT : RT nt ρ T a) (hs : RS ρ σ w) (fn : Func) (hc : fn.results.toList.all resChk = true) (h : resF P fn.results.toList T σ = .ok v) :
    ∃ X, (results fn a.tmps).run P w = .ok X w ∧ Rv ρ v X := by
  have gen : ∀ Xs : List Value, (fn.results.toList.mapM (fun r => match r with
      | .tmp t => pure (a.tmps.getD t undef)
      | .cell c t => do loadVar t (← asAddr (a.tmps.getD c undef)) : ResultVar → Sem Value)).run P w = .ok Xs w → (results fn a.tmps).run P w = .ok (if h : Xs.toArray.size = 1 then Xs.toArray[0] else .tuple Xs.toArray) w := fun Xs hX => by
    have hX' : (fn.results.mapM (fun r => match r with
      | .tmp t => pure (a.tmps.getD t undef)
      | .cell c t => do loadVar t (← asAddr (a.tmps.getD c undef)) : ResultVar → Sem Value)).run P w = .ok Xs.toArray w := by
      rw [Array.mapM_eq_mapM_toList, map_eq_pure_bind]
      simp only [Sem.run_bind, hX, Result.andThen_ok, Sem.run_pure]
    unfold results
    simp only [Sem.run_bind, Result.andThen_ok, Sem.run_pure]
    erw [hX']
    rfl
  generalize hl : fn.results.toList = l at *
  match l, hc, h, gen with
  | [], _, h, gen =>
    injection h with h; subst h
    exact ⟨_, gen [] rfl, rfl⟩
  | [r], hc, h, gen =>
    obtain ⟨X, h1, h2⟩ := resE_ok hT hs r (by simpa using hc) h
    exact ⟨X, gen [X] (by rw [List.mapM_cons]; simp only [Sem.run_bind, h1, Result.andThen_ok, Sem.run_pure, List.mapM_nil]), h2⟩
  | r :: r' :: l, hc, h, gen =>
    obtain ⟨vs, Xs, h1, h2, h4, h3⟩ := bindL_ok hT hs (r :: r' :: l) (fun vs => .ok (.tup vs)) v hc h
    injection h1 with h1; subst h1
    refine ⟨.tuple Xs.toArray, ?_, Xs, h2, rfl⟩
    rw [gen Xs h3, dif_neg]
    simp only [List.size_toArray, h4, List.length_cons]
    omega
def noTab : FuncId → Fu := fun _ => noF
def noVtab : Nat → Nat → Fu := fun _ => noTab
noncomputable def fnOk (P : Program) (f : FuncId) : Bool := match P.funcs[f]? with
  | some fn => match fn.body with
    | some c => fn.name != "runtime.NumGoroutine" && (codeOk P noTab noVtab fn.ntmps c && fn.results.toList.all resChk)
    | none => false
  | none => false
theorem args_get (args : Array Value) (n t : Nat) : (args ++ Array.replicate n undef).getD t undef = args.getD t undef := by
  rw [Array.getD_eq_getD_getElem?, Array.getD_eq_getD_getElem?, Array.getElem?_append]
  split
  · rfl
  · next h =>
    rw [Array.getElem?_eq_none (xs := args) (by omega), Array.getElem?_replicate]
    split <;> rfl
theorem body_ok {tab : FuncId → Fu} {vtab : Nat → Nat → Fu} (hm : P.follows .mixedOrders = true) (hF : ∀ f, CallOk P f (tab f)) (hV : ∀ n f, CallOkV P f (vtab n f)) {f : FuncId} {fn : Func} (hf : P.funcs[f]? = some fn) (hok : fnOk P f = true) : CallOkV P f (denB P tab vtab fn) := by
  unfold fnOk at hok
  rw [hf] at hok
  intro ρ σ w T args v σ' hTA hs h o a K Q hK
  cases hb : fn.body with
  | none => simp only [hb] at hok; cases hok
  | some c =>
    simp only [hb] at hok
    obtain ⟨k1, k2⟩ := Bool.and_eq_true_iff.1 hok
    obtain ⟨k2, k3⟩ := Bool.and_eq_true_iff.1 k2
    rw [code_same noTab tab noVtab vtab] at k2
    have hrun : (callFunc f args).run P w = .ok (.enter f args) w := by
      have hne : ¬ fn.name = "runtime.NumGoroutine" := by simpa using k1
      simp [callFunc, hf, hb, hne]
    rw [hrun]
    show Calls P f args w _
    have h : rets (resF P fn.results.toList) (denC P tab vtab c T σ) = .ok v σ' := by
      have : denB P tab vtab fn T σ = .ok v σ' := h
      unfold denB at this
      rw [hb] at this
      exact this
    have key : denC P tab vtab c T σ ≠ .no := fun e => by rw [e] at h; cases h
    have hT : RT fn.ntmps ρ T { tmps := args ++ Array.replicate (fn.ntmps - args.size) undef, defers := [] } := ⟨by simp; omega, fun t ht => by rw [args_get]; exact hTA t ht⟩
    refine calls_of_wp hf hb (wp_mono (code_ok hm hF hV c k2 ρ T σ _ w _ hT hs rfl key) fun e a' w' hq => ?_)
    cases hd : denC P tab vtab c T σ with
    | no => exact absurd hd key
    | normal T1 σ1 =>
      rw [hd] at h hq
      cases e <;> try exact hq.elim
      obtain ⟨ρ1, g1, g2, g3, g4⟩ := hq
      have h : OA.rec (motive := fun _ => RA) .no (fun v => .ok v σ1) (resF P fn.results.toList T1 σ1) = .ok v σ' := h
      cases hr : resF P fn.results.toList T1 σ1 with
      | no => rw [hr] at h; cases h
      | ok u =>
        rw [hr] at h
        injection h with h1 h2; subst h1 h2
        obtain ⟨X, x1, x2⟩ := res_ok g1 g2 fn k3 hr
        exact ⟨g4, X, x1, hK ρ1 X w' x2 g2 g3⟩
    | exit i T1 σ1 => rw [hd] at h; cases h
    | ret T1 σ1 =>
      rw [hd] at h hq
      cases e <;> try exact hq.elim
      obtain ⟨ρ1, g1, g2, g3, g4⟩ := hq
      have h : OA.rec (motive := fun _ => RA) .no (fun v => .ok v σ1) (resF P fn.results.toList T1 σ1) = .ok v σ' := h
      cases hr : resF P fn.results.toList T1 σ1 with
      | no => rw [hr] at h; cases h
      | ok u =>
        rw [hr] at h
        injection h with h1 h2; subst h1 h2
        obtain ⟨X, x1, x2⟩ := res_ok g1 g2 fn k3 hr
        exact ⟨g4, X, x1, hK ρ1 X w' x2 g2 g3⟩
theorem noF_okV (f : FuncId) : CallOkV P f noF := .no fun _ _ => rfl
theorem noF_ok (f : FuncId) : CallOk P f noF := (noF_okV f).ok
theorem denF_ok {tab : FuncId → Fu} {vtab : Nat → Nat → Fu} (hm : P.follows .mixedOrders = true) (hF : ∀ f, CallOk P f (tab f)) (hV : ∀ n f, CallOkV P f (vtab n f)) {f : FuncId} (hok : fnOk P f = true) : CallOkV P f (denF P tab vtab f) := by
  unfold denF
  cases hf : P.funcs[f]? with
  | none => exact noF_okV f
  | some fn => exact body_ok hm hF hV hf hok
theorem denR_ok {tab : FuncId → Fu} {vtab : Nat → Nat → Fu} (hm : P.follows .mixedOrders = true) (hF : ∀ f, CallOk P f (tab f)) (hV : ∀ n f, CallOkV P f (vtab n f)) {f : FuncId} (hok : fnOk P f = true) : CallOkV P f (denR P tab vtab f) := by
  unfold denR
  cases hf : P.funcs[f]? with
  | none => exact noF_okV f
  | some fn =>
    have key : ∀ n : Nat, CallOkV P f (Nat.rec (motive := fun _ => Fu) (fun _ _ => .no) (fun _ F => denB P (fun g => Bool.rec (tab g) F (Nat.beq g f)) vtab fn) n) := by
      intro n
      induction n with
      | zero => exact noF_okV f
      | succ n ih =>
        refine body_ok hm (fun g => ?_) hV hf hok
        cases hb : Nat.beq g f with
        | false => exact hF g
        | true => rw [Nat.eq_of_beq_eq_true hb]; exact ih.ok
    exact key 100
def All (P : Program) (vals : List FuncId) (l : List (FuncId × Fu)) : Prop := ∀ p ∈ l, CallOk P p.1 p.2 ∧ (vals.contains p.1 = true → CallOkV P p.1 p.2)
theorem tab_ok {vals : List FuncId} {l : List (FuncId × Fu)} (h : All P vals l) (f : FuncId) : CallOk P f (tabL l f) := by
  induction l with
  | nil => exact noF_ok f
  | cons p l ih =>
    show CallOk P f (Bool.rec (tabL l f) p.2 (Nat.beq f p.1))
    cases hb : Nat.beq f p.1 with
    | false => exact ih fun q hq => h q (List.mem_cons_of_mem _ hq)
    | true => rw [Nat.eq_of_beq_eq_true hb]; exact (h p List.mem_cons_self).1
theorem vtab_ok {vals : List FuncId} {l : List (FuncId × Fu)} (h : All P vals l) (n : Nat) (f : FuncId) : CallOkV P f (vtabL P vals l n f) := by
  unfold vtabL
  have h : ∀ p ∈ l.filter fun p => fitsA P vals n p.1, CallOkV P p.1 p.2 := fun p hp => by
    obtain ⟨h1, h2⟩ := List.mem_filter.1 hp
    exact (h p h1).2 (Bool.and_eq_true_iff.1 h2).1
  generalize (l.filter fun p => fitsA P vals n p.1) = l at h
  induction l with
  | nil => exact noF_okV f
  | cons p l ih =>
    show CallOkV P f (Bool.rec (l.foldr (fun p s => Bool.rec s p.2 (Nat.beq f p.1)) fun _ _ => .no) p.2 (Nat.beq f p.1))
    cases hb : Nat.beq f p.1 with
    | false => exact ih fun q hq => h q (List.mem_cons_of_mem _ hq)
    | true => rw [Nat.eq_of_beq_eq_true hb]; exact h p List.mem_cons_self
theorem All.stepP {vals : List FuncId} {l : List (FuncId × Fu)} {k : Nat} {f : FuncId} {F : Fu} (h : All P vals (l.take k)) (hk : l[k]? = some (f, F)) (hp : CallOk P f F ∧ (vals.contains f = true → CallOkV P f F)) : All P vals (l.take (k + 1)) := by
  intro p hp'
  rw [List.take_add_one, hk] at hp'
  rcases List.mem_append.1 hp' with g | g
  · exact h p g
  · rw [show p = (f, F) by simpa using g]; exact hp
theorem All.step {vals : List FuncId} {l : List (FuncId × Fu)} {k : Nat} {f : FuncId} {F : Fu} (h : All P vals (l.take k)) (hk : l[k]? = some (f, F)) (hp : CallOkV P f F) : All P vals (l.take (k + 1)) :=
  h.stepP hk ⟨hp.ok, fun _ => hp⟩
end
end Go.Proofs.YtaogloegiffioaaGreatDoor
