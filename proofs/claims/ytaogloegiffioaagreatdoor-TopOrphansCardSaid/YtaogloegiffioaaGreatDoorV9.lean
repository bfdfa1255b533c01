import Derived.Test.YtaogloegiffioaaGreatDoorV8
set_option linter.all false
namespace Go.Proofs.YtaogloegiffioaaGreatDoor.V
open Go.RowKit
theorem at_op {P : Program} {ops : Array Oper} {rest : List Oper} {o : Oper} {a : Act} {w : World} {Q : Exit → Act → World → Prop} (op : Op) (_ : o.op = op) (h : wpList P ops Q (o :: rest) a w) : wpList P ops Q (o :: rest) a w := h
theorem fold_fill (off : Nat) : ∀ (vs : List Value) (n : Nat) (cs : Array Value), off + n + vs.length ≤ cs.size →
    (vs.zipIdx n).foldl (fun cs (x : Value × Nat) => cs.setIfInBounds (off + x.2) x.1) cs = (splice cs.toList (off + n) vs).toArray
  | [], n, cs, _ => by simp [splice]
  | v :: vs, n, cs, h => by
    simp only [List.length_cons] at h
    rw [List.zipIdx_cons, List.foldl_cons, fold_fill off vs (n + 1) _ (by simp; omega)]
    congr 1
    simp only [Array.toList_setIfInBounds]
    unfold splice
    have hl : off + n < cs.toList.length := by simp; omega
    rw [List.length_cons, List.set_eq_take_append_cons_drop, if_pos hl]
    have e1 : (cs.toList.take (off + n) ++ v :: cs.toList.drop (off + n + 1)).take (off + (n + 1)) = cs.toList.take (off + n) ++ [v] := by
      rw [List.take_append, List.take_of_length_le (by simp; omega), List.length_take, show off + (n + 1) - min (off + n) cs.toList.length = 1 by omega]
      simp
    have e2 : (cs.toList.take (off + n) ++ v :: cs.toList.drop (off + n + 1)).drop (off + (n + 1) + vs.length) = cs.toList.drop (off + n + (vs.length + 1)) := by
      rw [List.drop_append, List.drop_of_length_le (by simp; omega), List.length_take, show off + (n + 1) + vs.length - min (off + n) cs.toList.length = vs.length + 1 by omega]
      simp
      congr 1
      omega
    rw [e1, e2]
    simp
theorem build_splice (x : List UInt8) (hx : x.length = 64) : splice (splice zeroSec.cells 0 (bv x)) 64 (bv x) = Sec.cells ⟨x, x, false⟩ := by
  have h1 := put_splice zeroSec zeroSec_ok x (by omega)
  have h2 : (x ++ zeroSec.now.drop x.length) = x := by
    rw [List.drop_of_length_le (by rw [hx]; exact Nat.le_refl _), List.append_nil]
  rw [h2] at h1
  rw [h1]
  exact flush_splice ⟨x, zeroSec.lasts, zeroSec.loose⟩ ⟨hx, zeroSec_ok.2⟩
set_option maxRecDepth 20000 in
theorem run_build_sec (x : List UInt8) (hx : x.length = 64) (w : World) :
    (Instr.build 253 #[(0, .agg (bv x).toArray), (1, .agg (bv x).toArray)]).run Tryz.prog w = .ok (.agg (Sec.cells ⟨x, x, false⟩).toArray) w := by
  refine run_build w 253 _ _ ?_
  have hz := zero253
  have hp : (match Tryz.prog.underlying 253 with | some (.struct fields) => fields.toList.mapM (fun f => (Tryz.prog.info? f.type).map fun i => (f.offset, i.size)) | _ => none) = some [(0, 64), (64, 64), (128, 1)] := by kernel_rfl
  have hu := Tryz.underlying253
  rw [hu] at hp
  cases hq : Tryz.prog.info? 253 with
  | none => simp [hq] at hz
  | some i =>
    have hs : i.zero = some (.agg zeroSec.cells.toArray) := by simpa [hq] using hz
    have hlz := Sec.cells_len zeroSec_ok
    have f1 := fold_fill 0 (bv x) 0 zeroSec.cells.toArray (by simp [bv_len, hlz]; omega)
    have f2 := fold_fill 64 (bv x) 0 (splice zeroSec.cells 0 (bv x)).toArray (by rw [List.size_toArray, length_splice _ _ _ (by rw [bv_len]; omega), bv_len]; omega)
    have hb := build_splice x hx
    simp only [Nat.add_zero, Nat.zero_add] at f1 f2
    rw [hb] at f2
    have hls : (splice zeroSec.cells 0 (bv x)).length = 129 := by rw [length_splice _ _ _ (by rw [bv_len]; omega)]; exact hlz
    unfold Program.built
    rw [hq, hu]
    dsimp only
    rw [hs]
    dsimp only at hp ⊢
    rw [hp]
    simp [Instr.fill, Value.cells, bv_len, hx, hlz, f1, hls, f2]
theorem wpStill_build {P : Program} {ops : Array Oper} {rest : List Oper} {o : Oper} {a : Act} {w : World} {Q' : Act → Prop} (t : TypeId) (x y : Operand) (hgd : o.guard = none) (ho : o.op = .build t #[(0, x), (1, y)]) (u v r : Value) (hx : a.eval x = u) (hy : a.eval y = v)
    (hr : (Instr.build t #[(0, u), (1, v)]).run P w = .ok r w) (hK : wpStill P ops w Q' rest (a.put o.dst r)) : wpStill P ops w Q' (o :: rest) a :=
  wpStill_step fun _ hK' => by
    simp only [Region.wanted, hgd, if_true]
    unfold Oper.still execOp
    simp [ho, hx, hy, hr, Result.andThen]
    exact ⟨rfl, hK' _ hK⟩
def Made (B : Nat) (D : DM) (e : Ending) (w' : World) : Prop := ∃ p b, e = .returned (.pointer (some ⟨p, 0, none⟩)) ∧ B ≤ p ∧ B ≤ b ∧ DevAt w' p b D
set_option maxRecDepth 20000 in
set_option maxHeartbeats 4000000 in
theorem crash_c (w : World) (p b : Nat) (D : DM) (h : DevAt w p b D) (B : Nat) (v : Value) (kl : List Bool) (hv : Sv w B 1 v kl.length (tv kl)) (hB : B ≤ w.heap.size) :
    Calls Tryz.prog 123 #[.pointer (some ⟨p, 0, none⟩), v] w fun e w' => Made w.heap.size (D.crash kl) e w' ∧ Below w.heap.size w w' := by
  obtain ⟨c0, c1, c2, c3, c4⟩ := h.cells
  have hlen := h.2.2.2.2.1
  have hlen1 := h.2.2.2.1
  have hp := h.1.lt
  have hbl := h.2.1.lt
  have H := Lib.hid h
  have HV := Lib.hid hv
  obtain ⟨ka, kc, rfl, hkl⟩ := Sv.form hv
  clear h c1 c2 c3 c4 hv
  go_enter Tryz.func123, Tryz.ntmps123
  go_wp2_with (fail)
  refine (new_c w (D.secs.length : Int)).mono ?_
  rintro e w1 ⟨⟨p', b', rfl, hp', hb', hD'⟩, bel1⟩
  have en : (min (max (D.secs.length : Int) 1) 2048).toNat = D.secs.length := by omega
  rw [en] at hD'
  have HD' := Lib.hid hD'
  have c0' := (bel1.cell (p := ⟨p, 0, none⟩) hp).trans c0
  have BEL1 := Lib.hid bel1
  clear hD' bel1 c0
  go_wp2_with (fail)
  go_loopg [6, 7, 8, 9, 23] D.secs.length (fun m j _ _ _ i wr => ∃ k, k + m = D.secs.length ∧ i = .int .i64 k ∧ j = .int .i64 (cnt (D.secs.take k) : Nat) ∧ DevAt wr p' b' { fresh D.secs.length with secs := part D.secs k kl } ∧ Below w.heap.size w wr)
  case atStart => exact ⟨0, by omega, rfl, rfl, by rw [part_zero]; exact HD'.out, BEL1.out⟩
  case round =>
    obtain ⟨k, hk, rfl, rfl, hD, bel⟩ := hrel
    by_cases hlt : k < D.secs.length
    · have hok := H.out.2.2.1
      have hoki := hok _ (List.getElem_mem hlt)
      have hbd := H.out.2.1.below bel hbl
      have hl := secCells_len _ hok
      have hseg := secCells_seg _ hok k hlt 0 129 (by omega)
      rw [Nat.add_zero, List.drop_zero, List.take_of_length_le (Nat.le_of_eq (Sec.cells_len hoki))] at hseg
      have hcl := Sec.cells_len hoki
      have i1 : (k : Int) < (D.secs.length : Int) := by omega
      have HBD := Lib.hid hbd
      have HOKI := Lib.hid hoki
      have HSEG := Lib.hid hseg
      have HL := Lib.hid hl
      have HCL := Lib.hid hcl
      have HDD := Lib.hid hD
      have BEL := Lib.hid bel
      clear hok hoki hbd hl hseg hcl hD bel c0'
      go_upto_if 31 with (first | ((with_reducible refine at_op (.load 253 (.tmp 26)) rfl ?_); refine wpList_load_seg 253 (.tmp 26) rfl rfl b (k * 129) 129 253 (secCells D.secs) _ rfl HBD.out Tryz.underlying253 rfl size253 (by rw [HL.out]; omega) ?_; rw [HSEG.out]) | ((with_reducible refine at_op (.alloc 253) rfl ?_); refine wpList_alloc_seg 253 rfl rfl zeroSec.cells zero253 ?_) | ((with_reducible refine at_op (.store 253 (.tmp 8) (.tmp 27)) rfl ?_); refine wpList_store_seg' 253 (.tmp 8) (.tmp 27) rfl rfl wr.heap.size 0 129 253 zeroSec.cells (D.secs[k].cells) rfl _ rfl rfl (Bl.new wr 253 _) size253 HCL.out (by rw [Sec.cells_len zeroSec_ok]; omega) (cells_one _) ?_; intro w2 hb2 f2; rw [splice_all _ _ (HCL.out.trans (Sec.cells_len zeroSec_ok).symm)] at hb2; have HB2 := Lib.hid hb2; have F2 := Lib.hid f2; clear hb2 f2) | ((with_reducible refine at_op (.load 251 (.tmp 28)) rfl ?_); refine wpList_load_seg 251 (.tmp 28) rfl rfl wr.heap.size 64 64 253 (D.secs[k].cells) _ rfl HB2.out Tryz.underlying251 rfl size251 (by rw [HCL.out]; omega) ?_; rw [cells_lasts _ HOKI.out]) | ((with_reducible refine at_op (.alloc 251) rfl ?_); refine wpList_alloc_seg 251 rfl rfl (bv (List.replicate 64 0)) zero251 ?_) | ((with_reducible refine at_op (.store 251 (.tmp 9) (.tmp 29)) rfl ?_); refine wpList_store_seg' 251 (.tmp 9) (.tmp 29) rfl rfl w2.heap.size 0 64 251 (bv (List.replicate 64 0)) (bv (D.secs[k]).lasts) rfl _ rfl rfl (Bl.new w2 251 _) size251 ((bv_len _).trans HOKI.out.2) (by rw [bv_len, List.length_replicate]; omega) (bv_one _) ?_; intro w3 hb3 f3; rw [splice_all _ _ (by rw [bv_len, bv_len, List.length_replicate]; exact HOKI.out.2)] at hb3; have l3 := (((HB2.out.alloc (.cells (bv (List.replicate 64 0)).toArray 251)).fr f3 (by simp; have := HB2.out.lt; omega)).cell 128).trans (cells_loose _ HOKI.out); have HB3 := Lib.hid hb3; have F3 := Lib.hid f3; clear hb3 f3))
      have SZ : wr.heap.size < w2.heap.size ∧ w2.heap.size < w3.heap.size ∧ w.heap.size ≤ wr.heap.size := by
        have h1 := F2.out.size
        have h2 := F3.out.size
        have h3 := BEL.out.size
        simp at h1 h2
        omega
      have hB3 : Below w.heap.size w w3 := (((BEL.out.alloc SZ.2.2 (.cells zeroSec.cells.toArray 253)).trans (F2.out.below (by simp; omega) (by simp; omega))).alloc (by omega) (.cells (bv (List.replicate 64 0)).toArray 251)).trans (F3.out.below (by simp; omega) (by simp; omega))
      have hkv := HV.out.below (Nat.le_refl _) hB3 hB
      have hcs := cnt_step D.secs k hlt
      have hcl := cnt_le (D.secs.take k)
      have hck : cnt (D.secs.take k) < 3000 := by rw [List.length_take] at hcl; omega
      obtain ⟨j2, hj2⟩ : ∃ j2, cnt (D.secs.take (k + 1)) = j2 := ⟨_, rfl⟩
      rw [hj2] at hcs
      have HJ2 := Lib.hid hj2
      clear hj2
      have HCS := Lib.hid hcs
      have HKV := Lib.hid hkv
      have HB3' := Lib.hid hB3
      clear hcs hkv hB3 hcl
      obtain ⟨j, hj⟩ : ∃ j, cnt (D.secs.take k) = j := ⟨_, rfl⟩
      rw [hj] at hck HCS ⊢
      have HJ := Lib.hid hj
      clear hj
      obtain ⟨X, hX⟩ : ∃ X, ((D.secs[k]).fallen j kl).now = X := ⟨_, rfl⟩
      have HX := Lib.hid hX
      clear hX
      go_cut [6] (fun s6 wx => s6 = .int .i64 (j2 : Nat) ∧ Bl wx w2.heap.size 251 (bv X) ∧ Fr [w2.heap.size] w3 wx)
      case first =>
        have hX := HX.out
        unfold Sec.fallen at hX
        cases hlo : (D.secs[k]).loose
        · rw [hlo] at hX l3 HCS
          simp at hX
          subst hX
          go_wp2_with (fail)
          go_meet
          exact ⟨by rw [HCS.out]; simp, HB3.out, Fr.refl _ _⟩
        · rw [hlo] at hX l3 HCS
          simp only [Bool.true_and] at hX
          have hle : (kl.length : Int) ≤ 9223372036854775807 := by omega
          by_cases hjk : j < kl.length
          · obtain ⟨kb, ko, rfl, hkb, hkc⟩ := HKV.out.at_ (by rw [tv_len]; omega)
            have kc := hkc j (by rw [tv_len]; exact hjk)
            have e : (tv kl)[j]'(by rw [tv_len]; exact hjk) = .bool kl[j] := by simp [tv]
            rw [e] at kc
            have hg : kl.getD j false = kl[j] := by simp [hjk]
            rw [hg] at hX
            clear hkc hg e
            cases hkj : kl[j]
            · rw [hkj] at hX kc
              simp at hX
              subst hX
              go_wp2_with (fail)
              go_meet
              exact ⟨by rw [HCS.out]; rfl, HB3.out, Fr.refl _ _⟩
            · rw [hkj] at hX kc
              simp at hX
              subst hX
              go_wp2_with (first | ((with_reducible refine at_op (.load 251 (.tmp 42)) rfl ?_); refine wpList_load_seg 251 (.tmp 42) rfl rfl wr.heap.size 0 64 253 (D.secs[k].cells) _ rfl ((HB2.out.alloc (.cells (bv (List.replicate 64 0)).toArray 251)).fr F3.out (by simp; omega)) Tryz.underlying251 rfl size251 (by rw [HCL.out]; omega) ?_; rw [cells_now _ HOKI.out]) | ((with_reducible refine at_op (.store 251 (.tmp 9) (.tmp 43)) rfl ?_); refine wpList_store_seg' 251 (.tmp 9) (.tmp 43) rfl rfl w2.heap.size 0 64 251 (bv (D.secs[k]).lasts) (bv (D.secs[k]).now) rfl _ rfl rfl HB3.out size251 ((bv_len _).trans HOKI.out.1) (by rw [bv_len]; have := HOKI.out.2; omega) (bv_one _) ?_; intro w4 hb4 f4; rw [splice_all _ _ (by rw [bv_len, bv_len]; exact HOKI.out.1.trans HOKI.out.2.symm)] at hb4; have HB4 := Lib.hid hb4; have F4 := Lib.hid f4; clear hb4 f4))
              go_meet
              exact ⟨by rw [HCS.out]; rfl, HB4.out, F4.out⟩
          · have hg : kl.getD j false = false := by simp [List.getD, List.getElem?_eq_none (Nat.le_of_not_lt hjk)]
            rw [hg] at hX
            simp at hX
            subst hX
            clear hg
            have hjk' : (kl.length : Int) ≤ (j : Int) := by omega
            go_wp2_with (fail)
            go_meet
            exact ⟨by rw [HCS.out]; rfl, HB3.out, Fr.refl _ _⟩
      case rest =>
        obtain ⟨rfl, hbx, fx⟩ := hcut
        have hpl := HDD.out.1.lt
        have hbl' := HDD.out.2.1.lt
        have hF : Fr [wr.heap.size, w2.heap.size] wr wc := (((((Fr.refl _ wr).alloc _).trans (F2.out.mono (by simp))).alloc _).trans (F3.out.mono (by simp))).trans (fx.mono (by simp))
        have hD5 := HDD.out.fr hF (by simp; omega) (by simp; omega)
        have c5 := hD5.cells.1
        change wc.cell? ⟨p', 0, none⟩ = some (.slice (some ⟨b', 0, none⟩) (part D.secs k kl).length (part D.secs k kl).length) at c5
        rw [part_len _ _ (by omega)] at c5
        have hXl : X.length = 64 := by
          have hX := HX.out
          unfold Sec.fallen at hX
          split at hX
          · rw [← hX]; exact HOKI.out.1
          · rw [← hX]; exact HOKI.out.2
        have hbuild := run_build_sec X hXl
        have hBel5 : Below w.heap.size w wc := HB3'.out.trans (fx.below (by omega) (by simp; omega))
        have HXL := Lib.hid hXl
        have HBX := Lib.hid hbx
        have HF := Lib.hid hF
        have HD5 := Lib.hid hD5
        have HBel5 := Lib.hid hBel5
        clear hbx fx hF hD5 hXl hBel5 l3
        go_wp2_with (fail)
        refine wp_region_still_tail 9 (by kernel_rfl) (by kernel_rfl) ?_
        simp only [List.take_succ_cons, List.take_zero, List.drop_succ_cons, List.drop_zero]
        iterate 5 still_step
        refine wpStill_load_seg 251 (.tmp 9) rfl rfl w2.heap.size 0 64 251 (bv X) _ rfl HBX.out Tryz.underlying251 rfl size251 (by rw [bv_len]; have := HXL.out; omega) ?_
        rw [List.drop_zero, List.take_of_length_le (by rw [bv_len]; exact Nat.le_of_eq HXL.out)]
        refine wpStill_load_seg 251 (.tmp 9) rfl rfl w2.heap.size 0 64 251 (bv X) _ rfl HBX.out Tryz.underlying251 rfl size251 (by rw [bv_len]; have := HXL.out; omega) ?_
        rw [List.drop_zero, List.take_of_length_le (by rw [bv_len]; exact Nat.le_of_eq HXL.out)]
        refine wpStill_build 253 (.tmp 51) (.tmp 52) rfl rfl _ _ _ rfl rfl (hbuild _) ?_
        still_step
        refine wpStill_nil ?_
        change wpList _ _ _ _ _ wc.drew
        have hok1 := HD5.out.2.2.1
        change ∀ s ∈ part D.secs k kl, s.Ok at hok1
        have hl1 := secCells_len _ hok1
        rw [part_len _ _ (by omega)] at hl1
        have HOK1 := Lib.hid hok1
        have HL1 := Lib.hid hl1
        clear hok1 hl1
        go_wp2_with ((with_reducible refine at_op (.store 253 (.tmp 54) (.tmp 53)) rfl ?_); refine wpList_store_seg' 253 (.tmp 54) (.tmp 53) rfl rfl b' (k * 129) 129 253 (secCells (part D.secs k kl)) (Sec.cells ⟨X, X, false⟩) rfl _ rfl rfl HD5.out.2.1.drew size253 (Sec.cells_len ⟨HXL.out, HXL.out⟩) (by rw [HL1.out]; omega) (cells_one _) ?_; intro w6 hb6 f6; have HB6 := Lib.hid hb6; have F6 := Lib.hid f6; clear hb6 f6)
        go_roundg (D.secs.length - (k + 1))
        case measure => omega
        case rel =>
          have hfal : (D.secs[k]).fallen j kl = ⟨X, X, false⟩ := by
            have hX := HX.out
            unfold Sec.fallen at hX ⊢
            split at hX
            · next h => rw [if_pos h]; simp only at hX; rw [hX]
            · next h => rw [if_neg h]; simp only at hX; rw [hX]
          have hpk : k < (part D.secs k kl).length := by rw [part_len _ _ (by omega)]; exact hlt
          have hb7 := sec_store HOK1.out k hpk ⟨X, X, false⟩ ⟨HXL.out, HXL.out⟩ HB6.out
          have hst := part_step D.secs k hlt kl
          rw [HJ.out, hfal] at hst
          rw [hst] at hb7
          have hne := HD5.out.ne
          have hwc := HBel5.out.size
          refine ⟨k + 1, by omega, by go_num, by rw [HJ2.out], ⟨?_, hb7, ?_⟩, HBel5.out.drew.trans ((F6.out.below (B := w.heap.size) (by simpa using hwc) (by simpa using hb')))⟩
          · have := HD5.out.1.drew.fr F6.out (by simpa using hne)
            refine cast (congrArg (Bl _ p' 149) ?_) this
            simp [DM.head, part_len _ _ (Nat.le_of_lt hlt), part_len _ (k + 1) hlt]
          · obtain ⟨o1, o2, o3, o4⟩ := HD5.out.2.2
            refine ⟨part_ok H.out.2.2.1 (k + 1) kl, ?_, ?_, o4⟩
            · show 1 ≤ (part D.secs (k + 1) kl).length
              rw [part_len _ _ hlt]; exact hlen1
            · show (part D.secs (k + 1) kl).length ≤ 2048
              rw [part_len _ _ hlt]; exact hlen
    · have e : k = D.secs.length := by omega
      subst e
      rw [part_all] at hD
      have HD2 := Lib.hid hD
      have BEL := Lib.hid bel
      clear hD bel
      go_wp2_with (fail)
      go_ret
      exact ⟨⟨p', b', rfl, hp', hb', HD2.out⟩, BEL.out⟩
end Go.Proofs.YtaogloegiffioaaGreatDoor.V
