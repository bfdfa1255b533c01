import Derived.Test.YtjokghnlmaaejaaJ7
import Derived.Lib.AppendZerosOnto
import Derived.Lib.AppendZeros
import Derived.Lib.Overlaps
namespace Go.Proofs.Ytjokghnlmaaejaa
open Go.RowKit
/-! ### slices.Insert -/
theorem run_copy_bl {P : Program} {w : World} {dT sT ty elem : TypeId} {g o dLen dCap sLen sCap sz : Nat} {ad : Addr} {t : TypeId} {cur cs : List Value} (n : Nat)
    (hu : P.underlying dT = some (.slice elem)) (hs : (P.info? elem).map (·.size) = some sz) (h : Bl w g t cur) (hn : Nat.min sLen dLen = n) (hl : cs.length = n * sz)
    (hsrc : ∀ j v, cs[j]? = some v → w.cell? (ad.add j) = some v) (hfit : o + cs.length ≤ cur.length) (h1 : ∀ v ∈ cs, v.oneCell' = true) :
    (Builtin.copy_ #[dT, sT] ty #[.slice (some ⟨g, o, none⟩) dLen dCap, .slice (some ad) sLen sCap]).run P w = .ok (goInt n) (w.setRow g (splice cur o cs).toArray) := by
  have hll := run_loadCells_list (P := P) w ad cs hsrc
  have hst := run_storeCells_at P g o t cs 0 cur.toArray w h (by simpa using hfit) h1
  cases hq : P.info? elem with
  | none => simp [hq] at hs
  | some i =>
    have hi : i.size = sz := by simpa [hq] using hs
    rw [hl] at hll
    simp [Builtin.copy_, run_underlying hu, Builtin.lenOf, Builtin.firstCells, sizeOf, typeInfo, hq, hi, hn, hll, hst, splice]
theorem wp_copy_run {P : Program} {w : World} {o : Oper} {a : Act} {K : Act → World → Prop} {Q : Exit → Act → World → Prop} (d s : Operand) (dT sT : TypeId)
    (ho : o.op = .call { callee := .builtin .copy, args := #[d, s], argTypes := #[dT, sT] }) (vd vs : Value) (hd : a.eval d = vd) (hs : a.eval s = vs)
    {v' : Value} {w' : World} (hr : (Builtin.copy_ #[dT, sT] o.type #[vd, vs]).run P w = .ok v' w') (h : K (a.put o.dst v') w') : o.wp P a w K Q := by
  unfold Oper.wp execOp
  simp only [ho, resolve, invoke, builtin, Sem.run_bind, Sem.run_pure, Result.andThen_ok, List.map_toArray, List.map_cons, List.map_nil, hd, hs, hr]
  exact h
theorem wpList_copy_run {P : Program} {w : World} {ops : Array Oper} {rest : List Oper} {o : Oper} {a : Act} {Q : Exit → Act → World → Prop} (hgd : o.guard = none) (d s : Operand) (dT sT : TypeId)
    (ho : o.op = .call { callee := .builtin .copy, args := #[d, s], argTypes := #[dT, sT] }) (vd vs : Value) (hd : a.eval d = vd) (hs : a.eval s = vs)
    {v' : Value} {w' : World} (hr : (Builtin.copy_ #[dT, sT] o.type #[vd, vs]).run P w = .ok v' w') (h : wpList P ops Q rest (a.put o.dst v') w') : wpList P ops Q (o :: rest) a w :=
  wpList_plain hgd fun _ hK => wp_copy_run d s dT sT ho vd vs hd hs hr (hK _ _ h)
theorem step_copy_run {P : Program} {w : World} {ops : Array Oper} {o : Oper} {a : Act} {K : Act → World → Prop} {Q : Exit → Act → World → Prop} {E : Prop} (hgd : o.guard = none) (d s : Operand) (dT sT : TypeId)
    (ho : o.op = .call { callee := .builtin .copy, args := #[d, s], argTypes := #[dT, sT] }) (vd vs : Value) (hd : a.eval d = vd) (hs : a.eval s = vs)
    {v' : Value} {w' : World} (hr : (Builtin.copy_ #[dT, sT] o.type #[vd, vs]).run P w = .ok v' w') (h : K (a.put o.dst v') w') :
    if Region.wanted o (yielded ops a.tmps) = true then Oper.wp P o a w K Q else E := by
  rw [if_pos (by simp [Region.wanted, hgd])]
  exact wp_copy_run d s dT sT ho vd vs hd hs hr h
theorem run_from_any (a : Option Addr) (n cap : Nat) (_h : n ≤ cap) : ∃ v, ∀ W, (Instr.slice 22 (.slice a n cap) (some (.int .i64 (n : Int))) none none).run Try.prog W = .ok v W := by
  obtain ⟨i0, hi, hz0, hz1, hz2⟩ := info_parts info48
  refine ⟨sliced a n n cap 4, fun W => ?_⟩
  rw [run_slice_l W 22 _ n cap und22e .i64 n (by omega) (by omega), elem22]
  simp [sizeOf, typeInfo, hi, hz1, Result.andThen]
def zp : PR := ⟨ByteArray.empty, raw0⟩
theorem zp_cells : prCells zp = [.string ⟨#[]⟩, .int .i64 0, .int .i64 0, .string ⟨#[]⟩] := rfl
theorem run41 {w : World} {b g lb cb lg cg o : Nat} {cs ds : List Value} (hne : b ≠ g) (hb : Bl w b 48 cs) (hg : Bl w g 48 ds) (hd : ds.length ≠ 0) :
    (callFunc 41 #[.slice (some ⟨b, 0, none⟩) lb cb, .slice (some ⟨g, o, none⟩) lg cg]).run Try.prog w = .ok (.value (.bool false)) w := by
  have h := Go.run_callFunc_extern (e := Extern.SlicesOverlaps.overlaps #[22, 22] #[4]) Try.func41 (by kernel_rfl) (by kernel_rfl) (by kernel_rfl) (by kernel_rfl) #[.slice (some ⟨b, 0, none⟩) lb cb, .slice (some ⟨g, o, none⟩) lg cg] w
  rw [Lib.run_overlaps_apart w 22 4 48 und22 4 (fun W => by obtain ⟨i, hi, _, hz, _⟩ := info_parts info48; simp [sizeOf, typeInfo, hi, hz]) ⟨b, 0, none⟩ ⟨g, o, none⟩ lb cb lg cg hne 48 48 cs.length ds.length
    (by unfold Bl at hb; simp [World.shape?, hb]) (by unfold Bl at hg; simp [World.shape?, hg]) hd (hb.free _) (hb.free _)] at h
  exact h
/-- What Insert gives. -/
def Put (w : World) (base : Nat) (l : List PR) (i : Nat) (e : Ending) (w' : World) : Prop :=
  (∃ g cap cs, e = .returned (.slice (some ⟨g, 0, none⟩) (l.length + 1) cap) ∧ base ≤ g ∧ Row w' g cap (l.take i ++ zp :: l.drop i) cs) ∧ Below base w w'
theorem put_len (l : List PR) (i : Nat) : (l.take i ++ zp :: l.drop i).length = l.length + 1 := by
  simp
  omega
set_option maxHeartbeats 2000000 in
/-- At the end. -/
theorem insert1_c (w : World) (base : Nat) (u : Value) (l : List PR) (own : w.ownsRow base 48 4 u l.length (prs l)) (hbase : base ≤ w.heap.size) (hl : l.length ≤ 1000) (b cb : Nat) (hv : Sp w w.heap.size (.slice (some ⟨b, 0, none⟩) 1 cb) [zp]) :
    Calls Try.prog 35 #[u, .int .i64 (l.length : Int), .slice (some ⟨b, 0, none⟩) 1 cb] w fun e w' => Put w base l l.length e w' := by
  obtain ⟨a, cap, hu⟩ : ∃ a cap, u = .slice a l.length cap ∧ l.length ≤ cap := by
    obtain ⟨_, ⟨rfl, h⟩ | ⟨g, cap, cur, rfl, _, _, h, _⟩⟩ := own
    · exact ⟨none, 0, by rw [h], by omega⟩
    · exact ⟨_, cap, rfl, h⟩
  obtain ⟨hu, hcap⟩ := hu
  subst hu
  obtain ⟨x, f1⟩ := run_from_any a l.length cap hcap
  have OWN := Lib.hid own
  have HV := Lib.hid hv
  clear own hv
  go_enter Try.func35, Try.ntmps35
  go_wp2_with (at_builtin; refine wpList_appN (.tmp 23) (.tmp 24) 22 rfl rfl base 48 _ 4 48 und22 info48 rfl (by decide) _ l.length (prs l) rfl OWN.out _ 1 w.heap.size (prs [zp]) rfl HV.out (prs_one _) ?a5 ?a6 ?a7 ?_)
  case a5 => unfold maxLen; omega
  case a6 => omega
  case a7 => exact hbase
  intro v3 w3 own3 g3 hn3
  have hb : Below base w w3 := (Below.refl base w).grown g3 hbase (fun k hk => own_ge OWN.out hk (Nat.le_refl _))
  have O := Lib.hid own3
  have HB := Lib.hid hb
  clear own3 hb g3 hn3
  go_wp2_with (fail)
  go_ret
  have e : prs l ++ prs [zp] = prs (l.take l.length ++ zp :: l.drop l.length) := by
    rw [List.take_length, List.drop_length, prs_app]
  have o2 := O.out
  rw [e] at o2
  have o3 : w3.ownsRow base 48 4 v3 (l.take l.length ++ zp :: l.drop l.length).length (prs (l.take l.length ++ zp :: l.drop l.length)) := by rw [put_len]; exact o2
  obtain ⟨g, cap', cs, rfl, hg, hrow⟩ := Row.of_own o3 (by simp)
  exact ⟨⟨g, cap', cs, by rw [put_len]; rfl, hg, hrow⟩, HB.out⟩
theorem size48 : (Try.prog.info? 48).map (·.size) = some 4 := by kernel_rfl
theorem put_row {cs : List Value} {l : List PR} {i cap : Nat} (hlen : cs.length = cap * 4) (hpre : cs.take (i * 4) = prs (l.take i)) (hi : i ≤ l.length) (hroom : l.length + 1 ≤ cap) {ds es : List Value}
    (hd : ds = splice cs ((i + 1) * 4) (prs (l.drop i))) (he : es = splice ds (i * 4) (prs [zp])) : es.length = cap * 4 ∧ es.take ((l.length + 1) * 4) = prs (l.take i ++ zp :: l.drop i) := by
  have h1 : (prs (l.drop i)).length = (l.length - i) * 4 := by rw [prs_len, List.length_drop]
  have h2 : (prs [zp]).length = 4 := rfl
  have hdl : ds.length = cs.length := by rw [hd]; exact splice_len (by omega)
  have hel : es.length = ds.length := by rw [he]; exact splice_len (by omega)
  refine ⟨by omega, ?_⟩
  have e1 : prs (l.take i ++ zp :: l.drop i) = prs (l.take i) ++ (prs [zp] ++ prs (l.drop i)) := by
    rw [prs_app, show zp :: l.drop i = [zp] ++ l.drop i from rfl, prs_app]
  have e2 : es = ds.take (i * 4) ++ (prs [zp] ++ ds.drop (i * 4 + (prs [zp]).length)) := by rw [he]; rfl
  have e3 : ds.take (i * 4) = prs (l.take i) := by rw [hd, splice_take_lt (by omega) (by omega), hpre]
  have e4 : ds.drop (i * 4 + (prs [zp]).length) = prs (l.drop i) ++ cs.drop ((i + 1) * 4 + (prs (l.drop i)).length) := by
    rw [hd, h2, show i * 4 + 4 = (i + 1) * 4 by omega]
    unfold splice
    rw [List.drop_left' (by simp; omega)]
  have h3 : (prs (l.take i)).length = i * 4 := by rw [prs_len, List.length_take, Nat.min_eq_left hi]
  rw [e1, e2, e3, e4, ← List.append_assoc, ← List.append_assoc, List.take_left' (by simp only [List.length_append]; omega)]
  simp
set_option maxHeartbeats 4000000 in
set_option maxRecDepth 100000 in
/-- There is room. -/
theorem insert3_c (w : World) (base g cap : Nat) (l : List PR) (cs : List Value) (h : Row w g cap l cs) (hg : base ≤ g) (i : Nat) (hi : i < l.length) (hroom : l.length + 1 ≤ cap) (hl : l.length ≤ 1000) (b cb : Nat) (hv : Bl w b 48 (prs [zp])) (hne : b ≠ g) :
    Calls Try.prog 35 #[.slice (some ⟨g, 0, none⟩) l.length cap, .int .i64 (i : Int), .slice (some ⟨b, 0, none⟩) 1 cb] w fun e w' => Put w base l i e w' := by
  obtain ⟨hb, hlen, hfit, htop, hpre⟩ := h
  have hnd : (prs (l.drop i)).length = (l.length - i) * 4 := by rw [prs_len, List.length_drop]
  have hnz : (prs [zp]).length = 4 := rfl
  have f1 := run_from g i l.length cap hi hfit
  have f2 := run_till g (l.length + 1) l.length cap hroom
  have f3 := run_from g (i + 1) (l.length + 1) cap (by omega) hroom
  have f4 := run_from g i (l.length + 1) cap (by omega) hroom
  rw [show ((l.length + 1 : Nat) : Int) = (l.length : Int) + 1 by omega] at f2
  rw [show ((i + 1 : Nat) : Int) = (i : Int) + 1 by omega, show l.length + 1 - (i + 1) = l.length - i by omega] at f3
  have hpri : cs.take (i * 4) = prs (l.take i) := by rw [prs_take, ← hpre, List.take_take, Nat.min_eq_left (by omega)]
  have f5 : (callFunc 41 #[.slice (some ⟨b, 0, none⟩) 1 cb, .slice (some ⟨g, (i + 1) * 4, none⟩) (l.length - i) (cap - (i + 1))]).run Try.prog w = .ok (.value (.bool false)) w := run41 hne hv hb (by omega)
  obtain ⟨ds, hds⟩ : ∃ ds, ds = splice cs ((i + 1) * 4) (prs (l.drop i)) := ⟨_, rfl⟩
  obtain ⟨es, hes⟩ : ∃ es, es = splice ds (i * 4) (prs [zp]) := ⟨_, rfl⟩
  obtain ⟨hel, hep⟩ := put_row hlen hpri (by omega) hroom hds hes
  have hdl : ds.length = cs.length := by rw [hds]; exact splice_len (by omega)
  have hsrc : ∀ j v, (prs (l.drop i))[j]? = some v → w.drew.cell? (Addr.add ⟨g, i * 4, none⟩ j) = some v := by
    intro j u hj
    rw [add_at, hb.drew.cell]
    rw [prs_drop, List.getElem?_drop, ← hpre, List.getElem?_take] at hj
    split at hj
    · exact hj
    · cases hj
  have cp1 : ∀ ty, (Builtin.copy_ #[22, 22] ty #[.slice (some ⟨g, (i + 1) * 4, none⟩) (l.length - i) (cap - (i + 1)), .slice (some ⟨g, i * 4, none⟩) (l.length + 1 - i) (cap - i)]).run Try.prog w.drew = .ok (goInt ((l.length - i : Nat) : Int)) (w.drew.setRow g ds.toArray) := fun ty => by
    rw [hds]
    exact run_copy_bl (l.length - i) und22 size48 hb.drew (Nat.min_eq_right (by omega)) (by omega) hsrc (by omega) (prs_one _)
  have hw1 : Bl (w.drew.setRow g ds.toArray) g 48 ds := hb.drew.setRow ds
  have hf1 : Fr [g] w (w.drew.setRow g ds.toArray) := (Fr.refl _ _).drew.setRow (by simp) _
  have hv1 : Bl (w.drew.setRow g ds.toArray) b 48 (prs [zp]) := hv.fr hf1 (by simpa using hne)
  have hsrc2 : ∀ j v, (prs [zp])[j]? = some v → (w.drew.setRow g ds.toArray).cell? (Addr.add ⟨b, 0, none⟩ j) = some v := by
    intro j u hj
    rw [add_at, hv1.cell, Nat.zero_add]
    exact hj
  have cp2 : ∀ ty, (Builtin.copy_ #[22, 22] ty #[.slice (some ⟨g, i * 4, none⟩) (l.length + 1 - i) (cap - i), .slice (some ⟨b, 0, none⟩) 1 cb]).run Try.prog (w.drew.setRow g ds.toArray) = .ok (goInt ((1 : Nat) : Int)) ((w.drew.setRow g ds.toArray).setRow g es.toArray) := fun ty => by
    rw [hes]
    exact run_copy_bl 1 und22 size48 hw1 (Nat.min_eq_left (by omega)) (by omega) hsrc2 (by omega) (prs_one _)
  have hw2 : Row ((w.drew.setRow g ds.toArray).setRow g es.toArray) g cap (l.take i ++ zp :: l.drop i) es := by
    refine ⟨hw1.setRow es, hel, by rw [put_len]; exact hroom, htop, by rw [put_len]; exact hep⟩
  have hf2 : Fr [g] w ((w.drew.setRow g ds.toArray).setRow g es.toArray) := hf1.setRow (by simp) _
  have hbase : base ≤ w.heap.size := by have := hb.lt; omega
  have CP1 := Lib.hid cp1
  have HW2 := Lib.hid hw2
  have HF2 := Lib.hid hf2
  clear hw1 hf1 hv1 hsrc2 hsrc hw2 hf2 cp1
  generalize (w.drew.setRow g ds.toArray).setRow g es.toArray = w2 at *
  generalize hgw : w.drew.setRow g ds.toArray = w1 at *
  clear hgw hds hes hpre hpri hb hv
  have hn0 : ¬ ((i : Int) = (l.length : Int)) := by omega
  have hn1 : ¬ ((cap : Int) < (l.length : Int) + 1) := by omega
  have hn2 : (i : Int) ≤ (l.length : Int) := by omega
  have hwr : IntKind.i64.wrap ((i : Int) + 1) = (i : Int) + 1 := by rw [IntKind.wrap_i64]; omega
  go_enter Try.func35, Try.ntmps35
  go_wp2_with (fail)
  have CP2 := Lib.hid cp2
  clear cp2
  go_region_law (refine step_copy_run rfl (.tmp 73) (.tmp 76) 22 22 rfl _ _ (by simp [Act.eval, Act.put]) (by simp [Act.eval, Act.put]) (CP1.out _) ?_)
  all_goals
    have cp2 := CP2.out
    go_wp2_with (fail)
    go_ret
    exact ⟨⟨g, cap, es, rfl, hg, HW2.out⟩, HF2.out.below hbase (by simpa using hg)⟩
theorem put_row2 {row : List Value} {l : List PR} {i cap : Nat} (hlen : row.length = cap * 4) (hpre : row.take (i * 4) = prs (l.take i)) (hi : i ≤ l.length) (hroom : l.length + 1 ≤ cap) {ds es : List Value}
    (hd : ds = splice row (i * 4) (prs [zp])) (he : es = splice ds ((i + 1) * 4) (prs (l.drop i))) : ds.length = cap * 4 ∧ es.length = cap * 4 ∧ es.take ((l.length + 1) * 4) = prs (l.take i ++ zp :: l.drop i) := by
  have h1 : (prs (l.drop i)).length = (l.length - i) * 4 := by rw [prs_len, List.length_drop]
  have h2 : (prs [zp]).length = 4 := rfl
  have hdl : ds.length = row.length := by rw [hd]; exact splice_len (by omega)
  have hel : es.length = ds.length := by rw [he]; exact splice_len (by omega)
  refine ⟨by omega, by omega, ?_⟩
  have e1 : prs (l.take i ++ zp :: l.drop i) = prs (l.take i) ++ (prs [zp] ++ prs (l.drop i)) := by
    rw [prs_app, show zp :: l.drop i = [zp] ++ l.drop i from rfl, prs_app]
  have e3 : ds.take ((i + 1) * 4) = prs (l.take i) ++ prs [zp] := by
    rw [hd, show (i + 1) * 4 = i * 4 + (prs [zp]).length by omega, splice_take (by omega), hpre]
  have e4 : (l.length + 1) * 4 = (i + 1) * 4 + (prs (l.drop i)).length := by omega
  rw [e1, e4, he, splice_take (by omega), e3, List.append_assoc]
theorem zero_len (n : Nat) : (Builtin.zeroCells zero48.cells n).size = n * 4 := by
  simp [Builtin.zeroCells, zero48, Value.cells]
theorem und3 : Try.prog.underlying 3 = some (.int .i64) := by kernel_rfl
set_option maxHeartbeats 4000000 in
set_option maxRecDepth 100000 in
/-- There is none. -/
theorem insert2_c (w : World) (base g cap : Nat) (l : List PR) (cs : List Value) (h : Row w g cap l cs) (hg : base ≤ w.heap.size) (i : Nat) (hi : i < l.length) (hroom : ¬ l.length + 1 ≤ cap) (hl : l.length ≤ 1000) (b cb : Nat) (hv : Bl w b 48 (prs [zp])) :
    Calls Try.prog 35 #[.slice (some ⟨g, 0, none⟩) l.length cap, .int .i64 (i : Int), .slice (some ⟨b, 0, none⟩) 1 cb] w fun e w' => Put w base l i e w' := by
  obtain ⟨hb, hlen, hfit, htop, hpre⟩ := h
  obtain ⟨i0, hi0, hz0, hz1, hz2⟩ := info_parts info48
  have hnd : (prs (l.drop i)).length = (l.length - i) * 4 := by rw [prs_len, List.length_drop]
  have hnz : (prs [zp]).length = 4 := rfl
  have hnt : (prs (l.take i)).length = i * 4 := by rw [prs_len, List.length_take, Nat.min_eq_left (by omega)]
  have hpri : cs.take (i * 4) = prs (l.take i) := by rw [prs_take, ← hpre, List.take_take, Nat.min_eq_left (by omega)]
  have hold : (Builtin.firstCells i0.size i (.slice (some ⟨g, 0, none⟩) i cap)).run Try.prog w.drew = .ok (prs (l.take i)).toArray w.drew := by
    rw [hz1]
    exact run_firstCells_some w.drew 4 i ⟨g, 0, none⟩ i cap (prs (l.take i)) hnt (fun j u hj => by
      rw [add_at, hb.drew.cell, Nat.zero_add]
      rw [← hpri, List.getElem?_take] at hj
      split at hj
      · exact hj
      · cases hj)
  have hin : i + (l.length + 1 - i) = l.length + 1 := by omega
  have hrz : ∀ ty, (Builtin.append_ #[22, 3] ty #[.slice (some ⟨g, 0, none⟩) i cap, .int .i64 ((l.length : Int) + 1 - (i : Int))]).run Try.prog w =
      .ok (.slice (some ⟨w.heap.size, 0, none⟩) (l.length + 1) (grownCap w (l.length + 1) cap 48)) (w.drew.alloc (.cells ((prs (l.take i)).toArray ++ Builtin.zeroCells zero48.cells (l.length + 1 - i) ++ Builtin.zeroCells zero48.cells (grownCap w (l.length + 1) cap 48 - (l.length + 1))) 48)) := fun ty => by
    have h := Lib.run_append_grow_zeros w 22 3 ty 48 i0 zero48 .i64 .i64 und22 und3 hi0 hz0 (some ⟨g, 0, none⟩) i cap (prs (l.take i)) hold (l.length + 1 - i) (by omega) (by omega) (by omega) (by omega) (by rw [hz2]; omega) (by rw [hz2, hin]; exact growslice_fits (by omega) (by omega))
    rw [hin] at h
    rw [← h, show ((l.length + 1 - i : Nat) : Int) = (l.length : Int) + 1 - (i : Int) by omega]
  have hGn : l.length + 1 ≤ grownCap w (l.length + 1) cap 48 := grownCap_ge w _ _ _
  have hGt : grownCap w (l.length + 1) cap 48 ≤ maxLen := grownCap_le_maxLen w _ _ _ (by unfold maxLen; omega)
  generalize grownCap w (l.length + 1) cap 48 = G at *
  obtain ⟨row, hrow⟩ : ∃ row : List Value, row = prs (l.take i) ++ ((Builtin.zeroCells zero48.cells (l.length + 1 - i)).toList ++ (Builtin.zeroCells zero48.cells (G - (l.length + 1))).toList) := ⟨_, rfl⟩
  have hrl : row.length = G * 4 := by
    have e1 := zero_len (l.length + 1 - i)
    have e2 := zero_len (G - (l.length + 1))
    rw [hrow]
    simp only [List.length_append, Array.length_toList]
    omega
  have hrp : row.take (i * 4) = prs (l.take i) := by rw [hrow, List.take_left' hnt]
  have hra : (prs (l.take i)).toArray ++ Builtin.zeroCells zero48.cells (l.length + 1 - i) ++ Builtin.zeroCells zero48.cells (G - (l.length + 1)) = row.toArray := by
    rw [hrow]
    apply Array.ext'
    simp
  rw [hra] at hrz
  clear hra hrow hold hin hz0 hz1 hz2 hi0
  obtain ⟨ds, hds⟩ : ∃ ds, ds = splice row (i * 4) (prs [zp]) := ⟨_, rfl⟩
  obtain ⟨es, hes⟩ : ∃ es, es = splice ds ((i + 1) * 4) (prs (l.drop i)) := ⟨_, rfl⟩
  obtain ⟨hdl, hel, hep⟩ := put_row2 hrl hrp (by omega) hGn hds hes
  have hw1 : Bl (w.drew.alloc (.cells row.toArray 48)) w.heap.size 48 row := Bl.new w.drew 48 row
  have hv1 : Bl (w.drew.alloc (.cells row.toArray 48)) b 48 (prs [zp]) := hv.drew.alloc _
  have hb1 : Bl (w.drew.alloc (.cells row.toArray 48)) g 48 cs := hb.drew.alloc _
  have hf1 : Below w.heap.size w (w.drew.alloc (.cells row.toArray 48)) := (Below.refl _ _).drew.alloc (Nat.le_refl _) _
  have hgN : g ≠ w.heap.size := by have := hb.lt; omega
  have hbN : b ≠ w.heap.size := by have := hv.lt; omega
  generalize w.drew.alloc (.cells row.toArray 48) = w1 at *
  have cp1 : ∀ ty, (Builtin.copy_ #[22, 22] ty #[.slice (some ⟨w.heap.size, i * 4, none⟩) (l.length + 1 - i) (G - i), .slice (some ⟨b, 0, none⟩) 1 cb]).run Try.prog w1 = .ok (goInt ((1 : Nat) : Int)) (w1.setRow w.heap.size ds.toArray) := fun ty => by
    rw [hds]
    exact run_copy_bl 1 und22 size48 hw1 (Nat.min_eq_left (by omega)) (by omega) (fun j u hj => by rw [add_at, hv1.cell, Nat.zero_add]; exact hj) (by omega) (prs_one _)
  have hw2 : Bl (w1.setRow w.heap.size ds.toArray) w.heap.size 48 ds := hw1.setRow ds
  have hf2 : Fr [w.heap.size] w1 (w1.setRow w.heap.size ds.toArray) := (Fr.refl _ _).setRow (by simp) _
  have hb2 := hb1.fr hf2 (by simpa using hgN)
  have hf2' := hf1.trans (hf2.below (B := w.heap.size) hf1.size (by simp))
  generalize w1.setRow w.heap.size ds.toArray = w2 at *
  have cp2 : ∀ ty, (Builtin.copy_ #[22, 22] ty #[.slice (some ⟨w.heap.size, (i + 1) * 4, none⟩) (l.length - i) (G - (i + 1)), .slice (some ⟨g, i * 4, none⟩) (l.length - i) (cap - i)]).run Try.prog w2.drew = .ok (goInt ((l.length - i : Nat) : Int)) (w2.drew.setRow w.heap.size es.toArray) := fun ty => by
    rw [hes]
    exact run_copy_bl (l.length - i) und22 size48 hw2.drew (Nat.min_self _) (by omega) (fun j u hj => by
      rw [add_at, hb2.drew.cell]
      rw [prs_drop, List.getElem?_drop, ← hpre, List.getElem?_take] at hj
      split at hj
      · exact hj
      · cases hj) (by omega) (prs_one _)
  have hw3 : Row (w2.drew.setRow w.heap.size es.toArray) w.heap.size G (l.take i ++ zp :: l.drop i) es :=
    ⟨hw2.drew.setRow es, hel, by rw [put_len]; exact hGn, hGt, by rw [put_len]; exact hep⟩
  have hf3 : Below w.heap.size w (w2.drew.setRow w.heap.size es.toArray) := hf2'.drew.trans (((Fr.refl [w.heap.size] w2.drew).setRow (by simp) es.toArray).below (B := w.heap.size) hf2'.size (by simp))
  generalize w2.drew.setRow w.heap.size es.toArray = w3 at *
  have f1 := run_from g i l.length cap hi hfit
  have f2 := run_till g i l.length cap (by omega)
  have f3 := run_from w.heap.size i (l.length + 1) G (by omega) hGn
  have f4 := run_from w.heap.size (i + 1) (l.length + 1) G (by omega) hGn
  rw [show ((i + 1 : Nat) : Int) = (i : Int) + 1 by omega, show l.length + 1 - (i + 1) = l.length - i by omega] at f4
  have HRZ := Lib.hid hrz
  have CP2 := Lib.hid cp2
  have HW3 := Lib.hid hw3
  have HF3 := Lib.hid hf3
  have hN := hf1.size
  clear hrz cp2 hw3 hf3 hf2' hb2 hf2 hw2 hf1 hb1 hv1 hw1 hds hes hpre hpri hb hv
  have hn0 : ¬ ((i : Int) = (l.length : Int)) := by omega
  have hn1 : (cap : Int) < (l.length : Int) + 1 := by omega
  have hn2 : (i : Int) ≤ (l.length : Int) := by omega
  have hwr : IntKind.i64.wrap ((i : Int) + 1) = (i : Int) + 1 := by rw [IntKind.wrap_i64]; omega
  go_enter Try.func35, Try.ntmps35
  go_wp2_with (at_builtin; refine Lib.wpList_append_run _ rfl _ _ _ _ rfl _ _ rfl rfl _ _ (HRZ.out _) ?_)
  go_region_law (refine step_copy_run rfl (.tmp 50) (.tmp 53) 22 22 rfl _ _ (by simp [Act.eval, Act.put]) (by simp [Act.eval, Act.put]) (CP2.out _) ?_)
  all_goals
    go_wp2_with (fail)
    go_ret
    exact ⟨⟨w.heap.size, G, es, rfl, hg, HW3.out⟩, HF3.out.mono hg⟩
theorem insert_c (w : World) (base : Nat) (u : Value) (l : List PR) (own : w.ownsRow base 48 4 u l.length (prs l)) (hbase : base ≤ w.heap.size) (hl : l.length ≤ 1000) (i : Nat) (hi : i ≤ l.length) (b cb : Nat) (hcb : 1 ≤ cb) (hcm : cb ≤ maxLen) (hv : Bl w b 48 (prs [zp])) (hne : u.ownBlock ≠ some b) :
    Calls Try.prog 35 #[u, .int .i64 (i : Int), .slice (some ⟨b, 0, none⟩) 1 cb] w fun e w' => Put w base l i e w' := by
  rcases Nat.lt_or_ge i l.length with h | h
  · obtain ⟨g, cap, cs, rfl, hg, row⟩ := Row.of_own own (by intro e; subst e; simp at h)
    by_cases hr : l.length + 1 ≤ cap
    · exact insert3_c w base g cap l cs row hg i h hr hl b cb hv (fun e => hne (by rw [e]; rfl))
    · exact insert2_c w base g cap l cs row hbase i h hr hl b cb hv
  · obtain rfl : i = l.length := by omega
    have := hv.sv (B := w.heap.size) 4 0 1 cb hv.lt (by rw [prs_len]; simp) hcb hcm
    rw [List.drop_zero, List.take_of_length_le (by rw [prs_len]; simp)] at this
    exact insert1_c w base u l own hbase hl b cb this
end Go.Proofs.Ytjokghnlmaaejaa
