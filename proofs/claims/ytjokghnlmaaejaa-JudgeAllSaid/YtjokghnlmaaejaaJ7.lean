import Derived.Test.YtjokghnlmaaejaaJ6
import Derived.Deep.RegionLaw
import Derived.Lib.SliceRun
import Derived.Deep.RegionLawGrows
import Derived.Deep.Upon
namespace Go.Proofs.Ytjokghnlmaaejaa
open Go.RowKit
/-! ### slices.Delete -/
theorem Bl.setCells {b : Nat} {t : TypeId} : ∀ (vs : List Value) (o : Nat) (w : World) (cs : List Value), Bl w b t cs → o + vs.length ≤ cs.length → Bl (w.setCells b o vs) b t (splice cs o vs)
  | [], _, _, _, h, _ => by simpa [World.setCells, splice] using h
  | v :: vs, o, w, cs, h, hl => by
    simp only [List.length_cons] at hl
    have := Bl.setCells vs (o + 1) _ _ (h.set o v) (by simp; omega)
    rw [World.setCells]
    refine cast (congrArg (Bl _ b t) ?_) this
    unfold splice
    rw [List.length_cons, List.set_eq_take_append_cons_drop, if_pos (by omega)]
    have e1 : (cs.take o ++ v :: cs.drop (o + 1)).take (o + 1) = cs.take o ++ [v] := by
      rw [List.take_append, List.take_of_length_le (by simp; omega), List.length_take, show o + 1 - min o cs.length = 1 by omega]
      simp
    have e2 : (cs.take o ++ v :: cs.drop (o + 1)).drop (o + 1 + vs.length) = cs.drop (o + (vs.length + 1)) := by
      rw [List.drop_append, List.drop_of_length_le (by simp; omega), List.length_take, show o + 1 + vs.length - min o cs.length = vs.length + 1 by omega]
      simp
      congr 1
      omega
    rw [e1, e2]
    simp
theorem Fr.setCells {S : List Nat} {a : World} {b : Nat} (hb : b ∈ S) : ∀ (vs : List Value) (o : Nat) (w : World), Fr S a w → Fr S a (w.setCells b o vs)
  | [], _, _, h => h
  | v :: vs, o, _, h => Fr.setCells hb vs (o + 1) _ (h.setCell hb v)
theorem run_clear_one {P : Program} (w : World) (t e ty : TypeId) (z : Value) (ht : P.underlying t = some (.slice e)) (hv : ∀ w, (zeroValue e).run P w = .ok z w) (h1 : ∀ u ∈ z.cells.toList, u.oneCell' = true) (b o c : Nat)
    (hc : ∀ j, j < z.cells.toList.length → (w.cell? ⟨b, o + j, none⟩).isSome = true) (hf : ∀ j, j < z.cells.toList.length → w.frozen? ⟨b, o + j, none⟩ = false) :
    (Builtin.clear_ #[t] ty #[.slice (some ⟨b, o, none⟩) 1 c]).run P w = .ok (.tuple #[]) (w.setCells b o z.cells.toList) := by
  have hzc : (Builtin.zeroCells z.cells 1).toList = z.cells.toList := by
    congr 1
    unfold Builtin.zeroCells
    apply Array.ext
    · simp
    · intro k h3 h4
      simp [Nat.mod_eq_of_lt h4]
      exact getElem!_pos z.cells k h4
  have hst := run_storeCells_cells (P := P) b o z.cells.toList 0 w (by simpa using hc) (by simpa using hf) h1
  simp only [Nat.add_zero] at hst
  simp [Builtin.clear_, run_underlying ht, hv, hzc, hst]
def zero48 : Value := .agg #[.string ⟨#[]⟩, .int .i64 0, .int .i64 0, .string ⟨#[]⟩]
theorem zeroRun48 (w : World) : (zeroValue 48).run Try.prog w = .ok zero48 w := by
  obtain ⟨i, hi, hz, _, _⟩ := info_parts info48
  simp [zeroValue, typeInfo, hi, hz, zero48]
theorem und22e : Try.prog.underlying 22 = some (.slice (Try.prog.elem 22)) := by kernel_rfl
theorem elem22 : Try.prog.elem 22 = 48 := by kernel_rfl
/-- `s[k:]`, `s[:k]`, `s[l:h]` of pairs. -/
theorem run_from (g k n cap : Nat) (hk : k < n) (hn : n ≤ cap) (W : World) : (Instr.slice 22 (.slice (some ⟨g, 0, none⟩) n cap) (some (.int .i64 (k : Int))) none none).run Try.prog W = .ok (.slice (some ⟨g, k * 4, none⟩) (n - k) (cap - k)) W := by
  obtain ⟨i0, hi, hz0, hz1, hz2⟩ := info_parts info48
  rw [run_slice_l W 22 _ n cap und22e .i64 k (by omega) (by omega), elem22]
  simp [sizeOf, typeInfo, hi, hz1, sliced, Result.andThen, add_at]
  omega
theorem run_from_end (g n cap : Nat) : ∃ ax, ∀ W, n ≤ cap → (Instr.slice 22 (.slice (some ⟨g, 0, none⟩) n cap) (some (.int .i64 (n : Int))) none none).run Try.prog W = .ok (.slice ax 0 (cap - n)) W := by
  obtain ⟨i0, hi, hz0, hz1, hz2⟩ := info_parts info48
  refine ⟨if cap = n then some ⟨g, 0, none⟩ else some (Addr.add ⟨g, 0, none⟩ (n * 4)), fun W hle => ?_⟩
  rw [run_slice_l W 22 _ n cap und22e .i64 n (by omega) (by omega), elem22]
  simp [sizeOf, typeInfo, hi, hz1, sliced, Result.andThen]
theorem run_till (g k n cap : Nat) (hk : k ≤ cap) (W : World) : (Instr.slice 22 (.slice (some ⟨g, 0, none⟩) n cap) none (some (.int .i64 (k : Int))) none).run Try.prog W = .ok (.slice (some ⟨g, 0, none⟩) k cap) W := by
  obtain ⟨i0, hi, hz0, hz1, hz2⟩ := info_parts info48
  rw [run_slice_h W 22 _ n cap und22e .i64 k (by omega) (by omega), elem22]
  simp [sizeOf, typeInfo, hi, hz1, sliced, Result.andThen, Addr.add]
theorem run_mid (g k h n cap : Nat) (hk : k < h) (hn : h ≤ cap) (W : World) : (Instr.slice 22 (.slice (some ⟨g, 0, none⟩) n cap) (some (.int .i64 (k : Int))) (some (.int .i64 (h : Int))) none).run Try.prog W = .ok (.slice (some ⟨g, k * 4, none⟩) (h - k) (cap - k)) W := by
  obtain ⟨i0, hi, hz0, hz1, hz2⟩ := info_parts info48
  rw [run_slice_lh W 22 _ n cap und22e .i64 .i64 k h (by omega) (by omega) (by omega), elem22]
  simp [sizeOf, typeInfo, hi, hz1, sliced, Result.andThen, add_at]
  omega
theorem run_lhm (g k h n cap : Nat) (hk : k < h) (hh : h ≤ n) (hn : n ≤ cap) (W : World) : (Instr.slice 22 (.slice (some ⟨g, 0, none⟩) n cap) (some (.int .i64 (k : Int))) (some (.int .i64 (h : Int))) (some (.int .i64 (n : Int)))).run Try.prog W = .ok (.slice (some ⟨g, k * 4, none⟩) (h - k) (n - k)) W := by
  obtain ⟨i0, hi, hz0, hz1, hz2⟩ := info_parts info48
  rw [run_slice_lhm W 22 _ n cap und22e .i64 .i64 .i64 k h n (by omega) (by omega) (by omega) (by omega), elem22]
  simp [sizeOf, typeInfo, hi, hz1, sliced, Result.andThen, add_at]
  omega
theorem step_append_nothing {P : Program} {ops : Array Oper} {o : Oper} {a : Act} {w : World} {K : Act → World → Prop} {Q : Exit → Act → World → Prop} {E : Prop}
    (hg : o.guard = none) (s x : Operand) (t : TypeId) (hop : o.op = Op.call { callee := Callee.builtin Builtin.append, args := #[s, x], argTypes := #[t, t] })
    (e : TypeId) (i : TypeInfo) (h1 : P.underlying t = some (.slice e)) (h2 : P.info? e = some i)
    (ao : Option Addr) (n cap : Nat) (hle : n ≤ cap) (hs : a.eval s = .slice ao n cap) (ax : Option Addr) (c : Nat) (hx : a.eval x = .slice ax 0 c) (hsrc : Src P i.size t (.slice ax 0 c) 0 [] w)
    (hK : K (a.put o.dst (.slice ao n cap)) w) :
    if Region.wanted o (yielded ops a.tmps) = true then Oper.wp P o a w K Q else E := by
  have hw : Region.wanted o (yielded ops a.tmps) = true := by simp [Region.wanted, hg]
  rw [if_pos hw]
  have hrun := run_append_nothing (P := P) w t t o.type e i h1 h2 ao n cap hle _ hsrc
  unfold Oper.wp
  simp [execOp, hop, resolve, invoke, builtin, hs, hx, hrun, Result.andThen]
  exact hK
theorem src_nil (w : World) (ax : Option Addr) (c : Nat) (m : Nat) : Src Try.prog m 22 (.slice ax 0 c) 0 [] w := by
  refine ⟨.inl ⟨48, und22⟩, fun w' => ?_, ?_, ?_, by simp, by simp⟩
  · simp [Builtin.lenOf]
  · cases ax <;> simp [Builtin.firstCells, loadCells, loadCellsFrom]
  · cases ax <;> simp [Builtin.firstCells, loadCells, loadCellsFrom]
theorem prs_take (l : List PR) (k : Nat) : prs (l.take k) = (prs l).take (k * 4) := by
  rcases Nat.lt_or_ge l.length k with h | h
  · rw [List.take_of_length_le (by omega), List.take_of_length_le (by rw [prs_len]; omega)]
  · conv => rhs; rw [← List.take_append_drop k l, prs_app]
    have hl := prs_len (l.take k)
    rw [List.length_take, Nat.min_eq_left h] at hl
    rw [List.take_left' hl]
theorem prs_drop (l : List PR) (k : Nat) : prs (l.drop k) = (prs l).drop (k * 4) := by
  rcases Nat.lt_or_ge l.length k with h | h
  · rw [List.drop_of_length_le (by omega), List.drop_of_length_le (by rw [prs_len]; omega)]; rfl
  · conv => rhs; rw [← List.take_append_drop k l, prs_app]
    have hl := prs_len (l.take k)
    rw [List.length_take, Nat.min_eq_left h] at hl
    rw [List.drop_left' hl]
/-- A row that is known: block `g` holds `l` ahead of whatever. -/
structure Row (w : World) (g cap : Nat) (l : List PR) (cs : List Value) : Prop where
  bl : Bl w g 48 cs
  len : cs.length = cap * 4
  fits : l.length ≤ cap
  top : cap ≤ maxLen
  pre : cs.take (l.length * 4) = prs l
theorem Row.of_own {w : World} {base : Nat} {u : Value} {l : List PR} (h : w.ownsRow base 48 4 u l.length (prs l)) (hl : l ≠ []) : ∃ g cap cs, u = .slice (some ⟨g, 0, none⟩) l.length cap ∧ base ≤ g ∧ Row w g cap l cs := by
  obtain ⟨h0, ⟨rfl, h1⟩ | ⟨g, cap, cur, rfl, hg, hh, hn, hc, hs, ht⟩⟩ := h
  · exact absurd (List.eq_nil_of_length_eq_zero h1) hl
  · exact ⟨g, cap, cur.toList, rfl, hg, hh, by simpa using hs, hn, hc, ht⟩
theorem Row.sp {w : World} {g cap : Nat} {l : List PR} {cs : List Value} (h : Row w g cap l cs) : Sp w w.heap.size (.slice (some ⟨g, 0, none⟩) l.length cap) l := by
  have := h.bl.sv (B := w.heap.size) 4 0 l.length cap h.bl.lt (by have := h.len; have := h.fits; omega) h.fits h.top
  rw [List.drop_zero, h.pre] at this
  exact this
theorem erase_eq (l : List PR) (i : Nat) : l.eraseIdx i = l.take i ++ l.drop (i + 1) := List.eraseIdx_eq_take_drop_succ l i
theorem splice_take {cs vs : List Value} {o : Nat} (h : o + vs.length ≤ cs.length) : (splice cs o vs).take (o + vs.length) = cs.take o ++ vs := by
  unfold splice
  rw [← List.append_assoc, List.take_append, List.take_of_length_le (by simp; omega)]
  rw [show (o + vs.length) - (cs.take o ++ vs).length = 0 by simp; omega]
  simp
theorem splice_take_lt {cs vs : List Value} {o m : Nat} (h : m ≤ o) (h2 : o ≤ cs.length) : (splice cs o vs).take m = cs.take m := by
  unfold splice
  rw [List.take_append, List.take_take, Nat.min_eq_left h, List.length_take, show m - min o cs.length = 0 by omega]
  simp
theorem splice_len {cs vs : List Value} {o : Nat} (h : o + vs.length ≤ cs.length) : (splice cs o vs).length = cs.length := by
  unfold splice
  simp
  omega
set_option maxHeartbeats 2000000 in
theorem delete_c (w : World) (g cap : Nat) (l : List PR) (cs : List Value) (h : Row w g cap l cs) (i : Nat) (hi : i < l.length) (hl : l.length ≤ 1000) :
    Calls Try.prog 34 #[.slice (some ⟨g, 0, none⟩) l.length cap, .int .i64 (i : Int), .int .i64 ((i : Int) + 1)] w fun e w' => (∃ u, e = .returned u ∧ Sp w' w'.heap.size u (l.eraseIdx i)) ∧ Fr [g] w w' := by
  obtain ⟨hb, hlen, hfit, htop, hpre⟩ := h
  have f1 := run_lhm g i (i + 1) l.length cap (by omega) (by omega) (by omega)
  have f2 := run_till g i l.length cap (by omega)
  have f3 := run_mid g (l.length - 1) l.length (l.length - 1) cap (by omega) (by omega)
  rw [show ((i + 1 : Nat) : Int) = (i : Int) + 1 by omega] at f1
  have hn1 : ((l.length - 1 : Nat) : Int) = (l.length : Int) - 1 := by omega
  have hgl := hb.lt
  have hne : ((i : Int) = (i : Int) + 1) = False := by simp; omega
  obtain ⟨i0, hi0, hz0, hz1, hz2⟩ := info_parts info48
  obtain ⟨z4, hz4⟩ : ∃ z4, z4 = zero48.cells.toList := ⟨_, rfl⟩
  -- what stands behind the append
  have hend : ∀ w3 : World, Bl w3 g 48 (splice cs (i * 4) (prs (l.drop (i + 1)))) → Fr [g] w w3 →
      (∀ ty, (Builtin.clear_ #[22] ty #[.slice (some ⟨g, (l.length - 1) * 4, none⟩) (l.length - (l.length - 1)) (cap - (l.length - 1))]).run Try.prog w3 = .ok (.tuple #[]) (w3.setCells g ((l.length - 1) * 4) z4)) ∧
      Sp (w3.setCells g ((l.length - 1) * 4) z4) (w3.setCells g ((l.length - 1) * 4) z4).heap.size (.slice (some ⟨g, 0, none⟩) (l.length - 1) cap) (l.eraseIdx i) ∧ Fr [g] w (w3.setCells g ((l.length - 1) * 4) z4) := by
    intro w3 hb3 f3
    have hz : z4.length = 4 := by rw [hz4]; rfl
    have hnl : (prs (l.drop (i + 1))).length = (l.length - (i + 1)) * 4 := by rw [prs_len, List.length_drop]
    have hsl : (splice cs (i * 4) (prs (l.drop (i + 1)))).length = cs.length := splice_len (by omega)
    refine ⟨fun ty => ?_, ?_, Fr.setCells (by simp) _ _ _ f3⟩
    · rw [show l.length - (l.length - 1) = 1 by omega]
      rw [hz4]
      refine run_clear_one w3 22 48 ty zero48 und22 zeroRun48 (by decide) g _ _ (fun j hj => ?_) (fun j _ => hb3.free _)
      rw [← hz4, hz] at hj
      rw [hb3.cell, List.getElem?_eq_getElem (by omega)]
      rfl
    · have hb4 := hb3.setCells z4 ((l.length - 1) * 4) w3 _ (by omega)
      have hel : (l.eraseIdx i).length = l.length - 1 := by rw [List.length_eraseIdx_of_lt hi]
      have := hb4.sv (B := (w3.setCells g ((l.length - 1) * 4) z4).heap.size) 4 0 (l.length - 1) cap hb4.lt (by rw [splice_len (by omega), hsl]; omega) (by omega) htop
      rw [List.drop_zero, splice_take_lt (by omega) (by omega)] at this
      unfold Sp
      rw [hel]
      refine cast (congrArg (Sv _ _ 4 _ _) ?_) this
      rw [erase_eq, prs_app, show (l.length - 1) * 4 = i * 4 + (prs (l.drop (i + 1))).length by omega, splice_take (by omega), prs_take, ← hpre, List.take_take, Nat.min_eq_left (by omega)]
  have HEND := Lib.hid hend
  clear hend hz4
  by_cases hlast : i + 1 = l.length
  · have hil : (i : Int) + 1 ≤ (l.length : Int) := by omega
    obtain ⟨ax, f4⟩ := run_from_end g l.length cap
    have f5 := fun W => f4 W hfit
    rw [show (l.length : Int) = (i : Int) + 1 by omega] at f5
    clear f4
    have HSRC := Lib.hid (src_nil w.drew ax (cap - l.length) i0.size)
    have he : splice cs (i * 4) (prs (l.drop (i + 1))) = cs := by
      rw [List.drop_of_length_le (by omega)]
      simp [splice, prs]
    rw [he] at HEND
    obtain ⟨hcl, hsp, hfr⟩ := HEND.out w.drew hb.drew (Fr.refl _ _).drew
    have HSP := Lib.hid hsp
    have HFR := Lib.hid hfr
    have e2 : i = l.length - 1 := by omega
    have E2 := Lib.hid e2
    clear hsp hfr he HEND e2 hlast
    go_enter Try.func34, Try.ntmps34
    go_wp2_with (fail)
    go_region_law (refine step_append_nothing rfl (.tmp 22) (.tmp 25) 22 rfl 48 i0 und22 hi0 (some ⟨g, 0, none⟩) i cap (by omega) (by simp [Act.eval, Act.put]) ax (cap - l.length) (by simp [Act.eval, Act.put]) HSRC.out ?_)
    all_goals
      rw [E2.out]
      go_wp2_with (fail)
      go_ret
      exact ⟨⟨_, rfl, HSP.out⟩, HFR.out⟩
  · have f4 := run_from g (i + 1) l.length cap (by omega) (by omega)
    rw [show ((i + 1 : Nat) : Int) = (i : Int) + 1 by omega] at f4
    have hnews : (prs (l.drop (i + 1))).length = (l.length - (i + 1)) * 4 := by rw [prs_len, List.length_drop]
    have hsrc : ∀ j u, (prs (l.drop (i + 1)))[j]? = some u → w.drew.cell? (Addr.add ⟨g, (i + 1) * 4, none⟩ j) = some u := by
      intro j u hj
      rw [add_at, hb.drew.cell]
      rw [prs_drop, List.getElem?_drop, ← hpre, List.getElem?_take] at hj
      split at hj
      · exact hj
      · cases hj
    have hfr : ∀ j, j < (prs (l.drop (i + 1))).length → (w.drew.cell? ⟨g, 0 + i * 4 + j, none⟩).isSome = true ∧ w.drew.frozen? ⟨g, 0 + i * 4 + j, none⟩ = false := by
      intro j hj
      rw [hnews] at hj
      refine ⟨?_, hb.drew.free _⟩
      rw [hb.drew.cell, List.getElem?_eq_getElem (by omega)]
      rfl
    have hw3 : Bl (w.drew.setCells g (0 + i * 4) (prs (l.drop (i + 1)))) g 48 (splice cs (i * 4) (prs (l.drop (i + 1)))) := by
      rw [Nat.zero_add]
      exact Bl.setCells _ _ _ _ hb.drew (by omega)
    obtain ⟨hcl, hsp, hff⟩ := HEND.out _ hw3 (Fr.setCells (by simp) _ _ _ (Fr.refl _ _).drew)
    have H1 := Lib.hid hnews
    have H2 := Lib.hid hsrc
    have H3 := Lib.hid hfr
    have HSP := Lib.hid hsp
    have HFR := Lib.hid hff
    clear hnews hsrc hfr hb hw3 hsp hff HEND
    generalize hw3 : w.drew.setCells g (0 + i * 4) (prs (l.drop (i + 1))) = w3 at *
    have HW3 := Lib.hid hw3
    clear hw3
    go_enter Try.func34, Try.ntmps34
    go_wp2_with (fail)
    go_region_law (refine step_append_room rfl (.tmp 22) (.tmp 25) 22 rfl 48 i0 4 und22 hi0 hz1 g 0 i cap (by simp [Act.eval, Act.put]) ⟨g, (i + 1) * 4, none⟩ (l.length - (i + 1)) (cap - (i + 1)) (prs (l.drop (i + 1))) (by simp [Act.eval, Act.put]) H1.out H2.out (prs_one _) (by omega) H3.out ?_; rw [HW3.out])
    all_goals
      rw [show i + (l.length - (i + 1)) = l.length - 1 by omega]
      go_wp2_with (fail)
      go_ret
      exact ⟨⟨_, rfl, HSP.out⟩, HFR.out⟩
end Go.Proofs.Ytjokghnlmaaejaa
