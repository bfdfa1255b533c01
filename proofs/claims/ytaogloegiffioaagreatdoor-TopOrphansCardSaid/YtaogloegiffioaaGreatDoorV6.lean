import Derived.Test.YtaogloegiffioaaGreatDoorV5
import Derived.Deep.RegionHeld3
import Derived.Deep.MidRow
set_option linter.all false
namespace Go.Proofs.YtaogloegiffioaaGreatDoor.V
open Go.RowKit
theorem wpList_store_seg' {P : Program} {ops : Array Oper} {rest : List Oper} {o : Oper} {a : Act} {w : World} {Q : Exit → Act → World → Prop} (ty : TypeId) (x y : Operand) (hgd : o.guard = none) (ho : o.op = .store ty x y) (b off m : Nat) (t : TypeId) (cs vs : List Value)
    (hx : a.eval x = .pointer (some ⟨b, off, none⟩)) (v : Value) (hy : a.eval y = v) (hv : v.cells = vs.toArray) (h : Bl w b t cs)
    (hi : (P.info? ty).map (·.size) = some m) (hvs : vs.length = m) (hm : off + m ≤ cs.length) (h1 : ∀ v ∈ vs, v.oneCell' = true)
    (hK : ∀ w', Bl w' b t (splice cs off vs) → Fr [b] w w' → wpList P ops Q rest (a.put o.dst undef) w') : wpList P ops Q (o :: rest) a w :=
  wpList_store_seg ty x y hgd ho b off m t cs vs hx v hy hv h hi hvs hm h1 (hK _ (h.setRow _) ((Fr.refl _ _).setRow (by simp) _))
def Sec.flush (s : Sec) : Sec := { s with lasts := s.now, loose := false }
def half (l : List Sec) (k : Nat) : List Sec := (l.take k).map Sec.flush ++ l.drop k
def DM.flush (D : DM) : DM := { D.burned with secs := D.secs.map Sec.flush }
theorem half_len (l : List Sec) (k : Nat) : (half l k).length = l.length := by simp [half]; omega
theorem half_get (l : List Sec) (k : Nat) (hk : k < l.length) (h : k < (half l k).length) : (half l k)[k] = l[k] := by
  simp [half, Nat.min_eq_left (Nat.le_of_lt hk)]
theorem half_step (l : List Sec) (k : Nat) (hk : k < l.length) : (half l k).set k (l[k].flush) = half l (k + 1) := by
  apply List.ext_getElem
  · simp [half]; omega
  · intro i h1 h2
    have hi : i < l.length := by rw [half_len] at h2; exact h2
    rw [List.getElem_set]
    by_cases e : k = i
    · subst e
      simp [half, List.getElem_append]
      omega
    · simp [half, List.getElem_append, e]
      by_cases h3 : i < k
      · rw [dif_pos (by omega), dif_pos (by omega)]
      · rw [dif_neg (by omega), dif_neg (by omega)]
        congr 1
        omega
theorem half_all (l : List Sec) : half l l.length = l.map Sec.flush := by simp [half]
theorem half_ok {l : List Sec} (h : ∀ s ∈ l, s.Ok) (k : Nat) : ∀ s ∈ half l k, s.Ok := by
  intro s hs
  simp only [half, List.mem_append, List.mem_map] at hs
  rcases hs with ⟨t, ht, rfl⟩ | hs
  · have := h t (List.mem_of_mem_take ht)
    exact ⟨this.1, this.1⟩
  · exact h s (List.mem_of_mem_drop hs)
theorem flush_splice (s : Sec) (hs : s.Ok) : splice s.cells 64 (bv s.now) = ({ s with lasts := s.now } : Sec).cells := by
  have h1 : s.now.length = 64 := hs.1
  have h2 : s.lasts.length = 64 := hs.2
  unfold splice Sec.cells
  simp only [bv_len, List.append_assoc]
  rw [List.take_left' (by rw [bv_len]; exact h1)]
  congr 2
  rw [List.drop_append, List.drop_append]
  simp [bv_len, h1, h2, List.drop_eq_nil_of_le]
noncomputable def cellOf (w : World) (a : Addr) : Value := (w.cell? a).getD undef
theorem cellOf_some {w : World} {a : Addr} (h : (w.cell? a).isSome = true) : w.cell? a = some (cellOf w a) := by
  obtain ⟨u, hu⟩ := Option.isSome_iff_exists.1 h
  rw [cellOf, hu]; rfl
theorem Bl.setCells {b : Nat} {t : TypeId} : ∀ (vs : List Value) (o : Nat) (w : World) (cs : List Value), Bl w b t cs → o + vs.length ≤ cs.length → Bl (w.setCells b o vs) b t (splice cs o vs)
  | [], _, _, _, h, _ => by simpa [World.setCells, splice] using h
  | v :: vs, o, w, cs, h, hl => by
    simp only [List.length_cons] at hl
    have := Bl.setCells vs (o + 1) _ _ (h.set o v) (by simp; omega)
    rw [World.setCells]
    refine cast (congrArg (Bl _ b t) ?_) this
    unfold splice
    rw [List.length_cons, List.set_eq_take_append_cons_drop, if_pos (by omega)]
    have e1 : (cs.take o ++ v :: cs.drop (o + 1)).take (o + 1) = cs.take o ++ [v] := by
      rw [List.take_append, List.take_of_length_le (by simp; omega), List.length_take, show o + 1 - min o cs.length = 1 by omega]
      simp
    have e2 : (cs.take o ++ v :: cs.drop (o + 1)).drop (o + 1 + vs.length) = cs.drop (o + (vs.length + 1)) := by
      rw [List.drop_append, List.drop_of_length_le (by simp; omega), List.length_take, show o + 1 + vs.length - min o cs.length = vs.length + 1 by omega]
      simp
      congr 1
      omega
    rw [e1, e2]
    simp
theorem Fr.setCells {S : List Nat} {a : World} {b : Nat} (hb : b ∈ S) : ∀ (vs : List Value) (o : Nat) (w : World), Fr S a w → Fr S a (w.setCells b o vs)
  | [], _, _, h => h
  | v :: vs, o, _, h => Fr.setCells hb vs (o + 1) _ (h.setCell hb v)
def FlS (p b n o : Nat) (vs : List Value) (w' : World) : Prop :=
  w'.cell? ⟨p, 0, none⟩ = some (.slice (some ⟨b, 0, none⟩) n n) ∧ w'.rangeAt b o vs ∧ w'.there b (o + 64) 64 ∧ w'.cell? ⟨b, o + 128, none⟩ = some (cellOf w' ⟨b, o + 128, none⟩) ∧ w'.frozen? ⟨b, o + 128, none⟩ = false
theorem FlS.cells {p b n o : Nat} {vs : List Value} {w' : World} (hne : p ≠ b) (hvs : vs.length = 64) (h : FlS p b n o vs w') : FlS p b n o vs (w'.setCells b (o + 64) vs) := by
  obtain ⟨h1, h2, h3, h4, h5⟩ := h
  refine ⟨?_, World.rangeAt_setCells_apart h2 _ _ _ (.inr (.inl (by omega))), World.there_setCells h3 _ _ _, ?_, ?_⟩
  · rw [World.cell?_setCells_out b vs _ w' _ (fun e => absurd e hne)]; exact h1
  · exact cellOf_some (World.isSome_setCells b vs _ w' _ (by rw [h4]; rfl))
  · rw [World.frozen?_setCells]; exact h5
theorem FlS.cell {p b n o : Nat} {vs : List Value} {w' : World} (hne : p ≠ b) (hvs : vs.length = 64) (u : Value) (h : FlS p b n o vs w') : FlS p b n o vs (w'.setCell ⟨b, o + 128, none⟩ u) := by
  obtain ⟨h1, h2, h3, h4, h5⟩ := h
  have e : w'.setCell ⟨b, o + 128, none⟩ u = w'.setCells b (o + 128) [u] := rfl
  refine ⟨?_, ?_, ?_, ?_, ?_⟩
  · rw [e, World.cell?_setCells_out b [u] _ w' _ (fun e => absurd e hne)]; exact h1
  · rw [e]; exact World.rangeAt_setCells_apart h2 _ _ _ (.inr (.inl (by omega)))
  · rw [e]; exact World.there_setCells h3 _ _ _
  · exact cellOf_some (World.isSome_setCells b [u] _ w' _ (by rw [h4]; rfl))
  · rw [World.frozen?_setCell]; exact h5
theorem sec_flush {w : World} {b : Nat} {L : List Sec} (hb : Bl w b 253 (secCells L)) (hok : ∀ s ∈ L, s.Ok) (k : Nat) (s : Sec) (hs : L[k]? = some s) :
    Bl ((w.setCells b (k * 129 + 64) (bv s.now)).setCell ⟨b, k * 129 + 128, none⟩ (.bool false)) b 253 (secCells (L.set k s.flush)) := by
  obtain ⟨hk, rfl⟩ := List.getElem?_eq_some_iff.1 hs
  have hoki := hok _ (List.getElem_mem hk)
  have hnow : (L[k]).now.length = 64 := hoki.1
  have hl := secCells_len _ hok
  have hsp := secCells_splice _ hok k hk 64 (bv (L[k]).now) (by rw [bv_len]; omega) _ (flush_splice _ hoki)
  have hb2 := Bl.setCells (bv (L[k]).now) (k * 129 + 64) _ _ hb (by rw [hl, bv_len]; omega)
  rw [hsp] at hb2
  have hb3 := hb2.set (k * 129 + 128) (.bool false)
  have hokset : ∀ s ∈ L.set k { L[k] with lasts := (L[k]).now }, s.Ok := by
    intro s hs
    rcases List.mem_or_eq_of_mem_set hs with h | h
    · exact hok s h
    · subst h; exact ⟨hoki.1, hoki.1⟩
  have hl2 := secCells_len _ hokset
  rw [List.length_set] at hl2
  have hi2 : k < (L.set k { L[k] with lasts := (L[k]).now }).length := by rw [List.length_set]; exact hk
  have hokset2 := hokset _ (List.getElem_mem hi2)
  rw [← splice_one _ _ (by rw [hl2]; omega), secCells_splice _ hokset k hi2 128 [.bool false] (by simp) _ (by rw [splice_one _ _ (by rw [Sec.cells_len hokset2]; omega)]; exact loose_set _ hokset2 false), List.set_set, List.getElem_set_self] at hb3
  exact hb3
theorem flush_dead (w : World) (p b : Nat) (D : DM) (h : DevAt w p b D) (hd : D.isDead = true) :
    Calls Tryz.prog 252 #[.pointer (some ⟨p, 0, none⟩)] w fun e w' => e = .returned (.int .i64 7) ∧ w = w' := by
  have HD := Lib.hid (dead_c w p b D h)
  rw [hd] at HD
  clear h hd
  go_enter Tryz.func252, Tryz.ntmps252
  go_wp2_with (go_at_call 173; refine (HD.out).mono ?_; rintro e w' ⟨rfl, rfl⟩)
  go_ret
  exact ⟨rfl, rfl⟩
theorem flush_nil (w : World) : Calls Tryz.prog 252 #[.pointer none] w fun e w' => e = .returned (.int .i64 7) ∧ w = w' := by
  go_enter Tryz.func252, Tryz.ntmps252
  go_wp2_with (go_at_call 173; refine (dead_nil w).mono ?_; rintro e w' ⟨rfl, rfl⟩)
  go_ret
  exact ⟨rfl, rfl⟩
set_option maxRecDepth 20000 in
set_option maxHeartbeats 4000000 in
theorem flush_c (w : World) (p b : Nat) (D : DM) (h : DevAt w p b D) (hd : D.isDead = false) (hcl : D.calls ≤ 1000000) :
    Calls Tryz.prog 252 #[.pointer (some ⟨p, 0, none⟩)] w fun e w' => e = .returned (.int .i64 0) ∧ DevAt w' p b D.flush ∧ Fr [p, b] w w' := by
  have HD := Lib.hid (dead_c w p b D h)
  rw [hd] at HD
  have HBU := Lib.hid (burns_c w p b D h hd hcl)
  have hlen := h.2.2.2.2.1
  have hne := h.ne
  clear h hd hcl
  go_enter Tryz.func252, Tryz.ntmps252
  go_wp2_with (go_at_call 173; refine (HD.out).mono ?_; rintro e w' ⟨rfl, rfl⟩)
  refine HBU.out.mono ?_
  rintro e w1 ⟨rfl, h1, f1⟩
  have c0 := h1.cells.1
  change w1.cell? ⟨p, 0, none⟩ = some (.slice (some ⟨b, 0, none⟩) D.secs.length D.secs.length) at c0
  have H1 := Lib.hid h1
  have F1 := Lib.hid f1
  clear h1 f1
  go_wp2_with (fail)
  go_loopg [3, 13] D.secs.length (fun m _ i wr => ∃ k, k + m = D.secs.length ∧ i = .int .i64 k ∧ DevAt wr p b { D.burned with secs := half D.secs k } ∧ Fr [p, b] w wr)
  case atStart => exact ⟨0, by omega, rfl, H1.out, F1.out.mono (by simp)⟩
  case round =>
    obtain ⟨k, hk, rfl, hD, hF⟩ := hrel
    by_cases hlt : k < D.secs.length
    · have c0 := hD.cells.1
      change wr.cell? ⟨p, 0, none⟩ = some (.slice (some ⟨b, 0, none⟩) (half D.secs k).length (half D.secs k).length) at c0
      rw [half_len] at c0
      have hb := hD.2.1
      have hok := hD.2.2.1
      change Bl wr b 253 (secCells (half D.secs k)) at hb
      change ∀ s ∈ half D.secs k, s.Ok at hok
      have hl := secCells_len _ hok
      rw [half_len] at hl
      have hkk : k < (half D.secs k).length := by rw [half_len]; exact hlt
      have hoki := hok _ (List.getElem_mem hkk)
      rw [half_get _ _ hlt] at hoki
      have hnow : (D.secs[k]).now.length = 64 := hoki.1
      have hseg := secCells_seg _ hok k hkk 0 64 (by omega)
      rw [half_get _ _ hlt, Nat.add_zero] at hseg
      have eseg : ((D.secs[k]).cells.drop 0).take 64 = bv (D.secs[k]).now := by
        rw [List.drop_zero, Sec.cells, List.append_assoc, List.take_append_of_le_length (by rw [bv_len]; omega), List.take_of_length_le (by rw [bv_len]; omega)]
      rw [eseg] at hseg
      have i1 : (k : Int) < (D.secs.length : Int) := by omega
      have HG : Hid (∀ (w2 : World), Bl w2 b 253 (splice (secCells (half D.secs k)) (k * 129 + 64) (bv (D.secs[k]).now)) → ∃ u, w2.cell? ⟨b, k * 129 + 128, none⟩ = some u) := by
        intro w2 hb2
        rw [hb2.cell]
        have : k * 129 + 128 < (splice (secCells (half D.secs k)) (k * 129 + 64) (bv (D.secs[k]).now)).length := by
          rw [length_splice _ _ _ (by rw [bv_len]; omega)]; omega
        exact ⟨_, List.getElem?_eq_getElem this⟩
      have r0 : wr.rangeAt b (k * 129) (bv (D.secs[k]).now) := fun j v hv => by
        rw [hb.cell, ← hv, ← hseg, List.getElem?_take]
        have hj : j < (bv (D.secs[k]).now).length := (List.getElem?_eq_some_iff.1 hv).1
        rw [bv_len] at hj
        rw [if_pos (by omega), List.getElem?_drop]
      have t0 : wr.there b (k * 129 + 64) 64 := fun j hj => ⟨by rw [hb.cell, List.getElem?_eq_getElem (by omega)]; rfl, hb.free _⟩
      have l0 : wr.cell? ⟨b, k * 129 + 128, none⟩ = some (cellOf wr ⟨b, k * 129 + 128, none⟩) := cellOf_some (by rw [hb.cell, List.getElem?_eq_getElem (by omega)]; rfl)
      have f0 : wr.frozen? ⟨b, k * 129 + 128, none⟩ = false := hb.free _
      have HK := Lib.hid hD
      have HF := Lib.hid hF
      have HB := Lib.hid hb
      have HOK := Lib.hid hok
      have HL := Lib.hid hl
      have HSEG := Lib.hid hseg
      have HNOW := Lib.hid hnow
      have hkk2 := Lib.hid hkk
      clear hD hF hb hok hl hseg eseg hnow hoki hkk
      have hkk := hkk2
      clear hkk2
      go_wp2_with (fail)
      have hu251 := Tryz.underlying251
      have hl251 : (bv (D.secs[k]).now).length = 64 := (bv_len _).trans HNOW.out
      have hi251 : (Tryz.prog.info? 251).map (·.size) = some (bv (D.secs[k]).now).length := by rw [hl251]; exact size251
      have h1251 := bv_one (D.secs[k]).now
      go_region_held3 (fun w' => w'.cell? ⟨p, 0, none⟩ = some (.slice (some ⟨b, 0, none⟩) D.secs.length D.secs.length) ∧ w'.rangeAt b (k * 129) (bv (D.secs[k]).now) ∧ w'.there b (k * 129 + 64) 64 ∧ w'.cell? ⟨b, k * 129 + 128, none⟩ = some (cellOf w' ⟨b, k * 129 + 128, none⟩) ∧ w'.frozen? ⟨b, k * 129 + 128, none⟩ = false)
        (first | exact ⟨c0, r0, t0, l0, f0⟩ | (with_reducible exact FlS.cells hne hl251 (by assumption)) | exact FlS.cells hne hl251 (by assumption) | exact FlS.cell hne hl251 _ (by assumption))
        (first | fail)
      go_wp2_with (fail)
      go_roundg (D.secs.length - (k + 1))
      case measure => omega
      case rel =>
        have hb3 := sec_flush HB.out.drew HOK.out k (D.secs[k]) (by rw [List.getElem?_eq_getElem hkk.out, half_get _ _ hlt])
        refine ⟨k + 1, by omega, by go_num, ⟨?_, ?_, ?_⟩, ?_⟩
        · have := (HK.out.1.fr (Fr.setCells (b := b) (S := [b]) (by simp) (bv (D.secs[k]).now) (k * 129 + 64) wr.drew (Fr.refl _ _).drew) (by simpa using hne)).setOther (p := ⟨b, k * 129 + 128, none⟩) hne (.bool false)
          refine cast (congrArg (Bl _ p 149) ?_) this
          simp [DM.head, half_len]
        · refine cast (congrArg (fun l => Bl _ b 253 (secCells l)) ?_) hb3
          exact half_step _ _ hlt
        · obtain ⟨o1, o2, o3, o4⟩ := HK.out.2.2
          exact ⟨half_ok H1.out.2.2.1 (k + 1), by simpa [half_len] using o2, by simpa [half_len] using o3, o4⟩
        · exact (Fr.setCells (by simp) _ _ _ HF.out.drew).setCell (by simp) _
    · have e : k = D.secs.length := by omega
      subst e
      rw [half_all] at hD
      have HD2 := Lib.hid hD
      have HF := Lib.hid hF
      clear hD hF
      go_wp2_with (fail)
      go_ret
      exact ⟨rfl, HD2.out, HF.out⟩
end Go.Proofs.YtaogloegiffioaaGreatDoor.V
