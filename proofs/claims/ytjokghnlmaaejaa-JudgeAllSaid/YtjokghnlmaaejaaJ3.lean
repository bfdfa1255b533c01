import Derived.Test.YtjokghnlmaaejaaJ2
namespace Go.Proofs.Ytjokghnlmaaejaa
open Go.RowKit
theorem results_cell_tmp {fn : Func} {t ty u : Nat} (h : fn.results = #[.cell t ty, .tmp u]) (tmps : Array Value) (P : Program) (w : World) (ad : Addr) (hp : tmps.getD t undef = .pointer (some ad)) (v : Value) (hl : (loadVar ty ad).run P w = .ok v w) :
    (results fn tmps).run P w = .ok (.tuple #[v, tmps.getD u undef]) w := by
  simp only [Array.getD_eq_getD_getElem?] at hp
  simp [results, h, hp, asAddr, hl]
theorem load60 {w : World} {b : Nat} {x : Value} (h : Bl w b 60 [x]) : (loadVar 60 ⟨b, 0, none⟩).run Try.prog w = .ok (.agg #[x]) w :=
  run_load_seg (m := 1) h Try.underlying60 rfl (by kernel_rfl) (by simp)
/-! ### value.Of, record.May -/
def ofOk (v : Raw) : Bool := (decide (v.kind = 1) && v.s.toList.isEmpty) || (decide (v.kind = 2) && decide (v.n = 0) && decide (v.s.size ≤ 24) && rv v.s)
def ofErr (v : Raw) : Int := if ofOk v then 0 else 1
set_option maxHeartbeats 1000000 in
theorem of_c (w : World) (v : Raw) : Calls Try.prog 38 #[rawV v] w fun e w' => (∃ u : Value, u.oneCell' = true ∧ e = .returned (.tuple #[.agg #[u], .int .i64 (ofErr v)])) ∧ Below w.heap.size w w' := by
  have hv : ∀ b : Bool, ofOk v = b → ofErr v = if b then 0 else 1 := fun b h => by rw [← h]; rfl
  have HV := Lib.hid hv
  have hunf : ofOk v = ((decide (v.kind = 1) && v.s.toList.isEmpty) || (decide (v.kind = 2) && decide (v.n = 0) && decide (v.s.size ≤ 24) && rv v.s)) := rfl
  have HU := Lib.hid hunf
  clear hv hunf
  generalize ofErr v = err at *
  generalize ofOk v = ok at *
  obtain ⟨kind, n, s⟩ := v
  simp only [rawV] at *
  have hr : Bl ((w.alloc (.cells #[.int .i64 kind, .int .i64 n, .string s] 24)).alloc (.cells #[.nilIface] 60)) w.heap.size 24 [.int .i64 kind, .int .i64 n, .string s] := (Bl.new w 24 _).alloc _
  have ho : Bl ((w.alloc (.cells #[.int .i64 kind, .int .i64 n, .string s] 24)).alloc (.cells #[.nilIface] 60)) (w.heap.size + 1) 60 [.nilIface] := by
    have := Bl.new (w.alloc (.cells #[.int .i64 kind, .int .i64 n, .string s] 24)) 60 [.nilIface]
    simpa using this
  have hb : Below w.heap.size w ((w.alloc (.cells #[.int .i64 kind, .int .i64 n, .string s] 24)).alloc (.cells #[.nilIface] 60)) := ((Below.refl _ _).alloc (Nat.le_refl _) _).alloc (by simp) _
  go_enter Try.func38, Try.ntmps38
  go_upto_region 1 with (fail)
  generalize (w.alloc (.cells #[.int .i64 kind, .int .i64 n, .string s] 24)).alloc (.cells #[.nilIface] 60) = w2 at *
  have c0 : w2.cell? ⟨w.heap.size, 0, none⟩ = some (.int .i64 kind) := hr.cell 0
  have c1 : w2.cell? ⟨w.heap.size, 1, none⟩ = some (.int .i64 n) := hr.cell 1
  have c2 : w2.cell? ⟨w.heap.size, 2, none⟩ = some (.string s) := hr.cell 2
  have r0 : w2.cell? ⟨w.heap.size + 1, 0, none⟩ = some .nilIface := ho.cell 0
  have f0 := ho.free 0
  have HO := Lib.hid ho
  have HB := Lib.hid hb
  have HR := Lib.hid hr
  have hset : ∀ (w3 : World) (u : Value), Bl w3 (w.heap.size + 1) 60 [.nilIface] → Below w.heap.size w w3 → Bl (w3.setCell ⟨w.heap.size + 1, 0, none⟩ u) (w.heap.size + 1) 60 [u] ∧ Below w.heap.size w (w3.setCell ⟨w.heap.size + 1, 0, none⟩ u) := fun w3 u h1 h2 => ⟨h1.set 0 u, h2.setCell (by simp) _⟩
  have HSET := Lib.hid hset
  have hz := hb.size
  have hlt := ho.lt
  clear hr ho hb hset
  by_cases k1 : kind = 1
  · cases k2 : s.toList.isEmpty
    · have k3 : ¬ kind = 2 := by omega
      have he : err = 1 := HV.out false (by rw [HU.out]; simp [k1, k2])
      clear HV HU
      go_wp2_with (fail)
      (try simp only [Exit.inBlock, Exit.then])
      obtain ⟨h1, h2⟩ := HSET.out _ .nilIface HO.out HB.out
      refine bodyPost_ret (results_cell_tmp rfl _ _ _ ⟨w.heap.size + 1, 0, none⟩ rfl _ (load60 h1)) rfl ?_
      exact ⟨⟨.nilIface, rfl, by (try rw [he]); rfl⟩, h2⟩
    · have he : err = 0 := HV.out true (by rw [HU.out]; simp [k1, k2])
      clear HV HU
      go_wp2_with (fail)
      (try simp only [Exit.inBlock, Exit.then])
      obtain ⟨h1, h2⟩ := HSET.out _ (.iface 2 (.int .i64 n)) HO.out HB.out
      refine bodyPost_ret (results_cell_tmp rfl _ _ _ ⟨w.heap.size + 1, 0, none⟩ rfl _ (load60 h1)) rfl ?_
      exact ⟨⟨(.iface 2 (.int .i64 n)), rfl, by (try rw [he]); rfl⟩, h2⟩
  · by_cases k2 : kind = 2
    · by_cases k3 : n = 0
      · by_cases k4 : s.size ≤ 24
        · have k5 : (s.size : Int) ≤ 24 := by omega
          have HC := Lib.hid (valid_c w2 s (by omega))
          have hx : ok = rv s := by rw [HU.out]; simp [k2, k3, k4]
          cases hr : rv s
          · have he : err = 1 := HV.out false (by rw [hx, hr])
            rw [hr] at HC
            clear HV HU hx
            go_wp2_with (go_at_call 43; refine HC.out.mono ?_; rintro e w3 ⟨rfl, bel⟩; have HO3 := Lib.hid (HO.out.below bel hlt); have HB3 := Lib.hid (HB.out.trans (bel.mono hz)); have r3 : w3.cell? ⟨w.heap.size + 1, 0, none⟩ = some .nilIface := HO3.out.cell 0; have f3 := HO3.out.free 0; clear bel)
            (try simp only [Exit.inBlock, Exit.then])
            obtain ⟨h1, h2⟩ := HSET.out _ .nilIface HO3.out HB3.out
            refine bodyPost_ret (results_cell_tmp rfl _ _ _ ⟨w.heap.size + 1, 0, none⟩ rfl _ (load60 h1)) rfl ?_
            exact ⟨⟨.nilIface, rfl, by (try rw [he]); rfl⟩, h2⟩
          · have he : err = 0 := HV.out true (by rw [hx, hr])
            rw [hr] at HC
            clear HV HU hx
            go_wp2_with (go_at_call 43; refine HC.out.mono ?_; rintro e w3 ⟨rfl, bel⟩; have HO3 := Lib.hid (HO.out.below bel hlt); have HB3 := Lib.hid (HB.out.trans (bel.mono hz)); have r3 : w3.cell? ⟨w.heap.size + 1, 0, none⟩ = some .nilIface := HO3.out.cell 0; have f3 := HO3.out.free 0; have s3 : w3.cell? ⟨w.heap.size, 2, none⟩ = some (.string s) := (HR.out.below bel (by omega)).cell 2; clear bel)
            (try simp only [Exit.inBlock, Exit.then])
            obtain ⟨h1, h2⟩ := HSET.out _ (.iface 66 (.string s)) HO3.out HB3.out
            refine bodyPost_ret (results_cell_tmp rfl _ _ _ ⟨w.heap.size + 1, 0, none⟩ rfl _ (load60 h1)) rfl ?_
            exact ⟨⟨(.iface 66 (.string s)), rfl, by (try rw [he]); rfl⟩, h2⟩
        · have k5 : ¬ (s.size : Int) ≤ 24 := by omega
          have he : err = 1 := HV.out false (by rw [HU.out]; simp [k1, k4])
          clear HV HU
          go_wp2_with (fail)
          (try simp only [Exit.inBlock, Exit.then])
          obtain ⟨h1, h2⟩ := HSET.out _ .nilIface HO.out HB.out
          refine bodyPost_ret (results_cell_tmp rfl _ _ _ ⟨w.heap.size + 1, 0, none⟩ rfl _ (load60 h1)) rfl ?_
          exact ⟨⟨.nilIface, rfl, by (try rw [he]); rfl⟩, h2⟩
      · have he : err = 1 := HV.out false (by rw [HU.out]; simp [k1, k3])
        clear HV HU
        go_wp2_with (fail)
        (try simp only [Exit.inBlock, Exit.then])
        obtain ⟨h1, h2⟩ := HSET.out _ .nilIface HO.out HB.out
        refine bodyPost_ret (results_cell_tmp rfl _ _ _ ⟨w.heap.size + 1, 0, none⟩ rfl _ (load60 h1)) rfl ?_
        exact ⟨⟨.nilIface, rfl, by (try rw [he]); rfl⟩, h2⟩
    · have he : err = 1 := HV.out false (by rw [HU.out]; simp [k1, k2])
      clear HV HU
      go_wp2_with (fail)
      (try simp only [Exit.inBlock, Exit.then])
      obtain ⟨h1, h2⟩ := HSET.out _ .nilIface HO.out HB.out
      refine bodyPost_ret (results_cell_tmp rfl _ _ _ ⟨w.heap.size + 1, 0, none⟩ rfl _ (load60 h1)) rfl ?_
      exact ⟨⟨.nilIface, rfl, by (try rw [he]); rfl⟩, h2⟩
theorem toList_nil (s : ByteArray) : s.toList = [] ↔ s = ByteArray.empty := by
  rw [Lib.toList_data]
  constructor
  · intro h
    obtain ⟨⟨l⟩⟩ := s
    simp at h
    subst h
    rfl
  · rintro rfl; rfl
theorem raw0_eq (kind n : Int) (s : ByteArray) : decide ((⟨kind, n, s⟩ : Raw) = raw0) = (decide (kind = 0) && (decide (n = 0) && s.toList.isEmpty)) := by
  unfold raw0
  have h := toList_nil s
  by_cases h1 : kind = 0 <;> by_cases h2 : n = 0 <;> by_cases h3 : s = ByteArray.empty <;> simp [h1, h2, h3, h]
/-- May a record be? -/
def mayR (r : RR) : Bool := mayKey r.k && (if r.gone then decide (r.v = raw0) else ofOk r.v)
set_option maxHeartbeats 1000000 in
theorem may_c (w : World) (r : RR) : Calls Try.prog 26 #[rrV r] w fun e w' => e = .returned (.bool (mayR r)) ∧ Below w.heap.size w w' := by
  have hunf : mayR r = (mayKey r.k && (if r.gone then decide (r.v = raw0) else ofOk r.v)) := rfl
  have HU := Lib.hid hunf
  clear hunf
  generalize mayR r = ok at *
  obtain ⟨k, gone, ⟨kind, n, s⟩⟩ := r
  simp only [rrV] at *
  have hr : Bl (w.alloc (.cells #[.string k, .bool gone, .int .i64 kind, .int .i64 n, .string s] 26)) w.heap.size 26 [.string k, .bool gone, .int .i64 kind, .int .i64 n, .string s] := Bl.new w 26 _
  have hb : Below w.heap.size w (w.alloc (.cells #[.string k, .bool gone, .int .i64 kind, .int .i64 n, .string s] 26)) := (Below.refl _ _).alloc (Nat.le_refl _) _
  go_enter Try.func26, Try.ntmps26
  go_upto_region 1 with (fail)
  generalize w.alloc (.cells #[.string k, .bool gone, .int .i64 kind, .int .i64 n, .string s] 26) = w2 at *
  have c0 : w2.cell? ⟨w.heap.size, 0, none⟩ = some (.string k) := hr.cell 0
  have c1 : w2.cell? ⟨w.heap.size, 1, none⟩ = some (.bool gone) := hr.cell 1
  have c2 : w2.cell? ⟨w.heap.size, 2, none⟩ = some (.int .i64 kind) := hr.cell 2
  have c3 : w2.cell? ⟨w.heap.size, 3, none⟩ = some (.int .i64 n) := hr.cell 3
  have c4 : w2.cell? ⟨w.heap.size, 4, none⟩ = some (.string s) := hr.cell 4
  have HB := Lib.hid hb
  have hz := hb.size
  have hlt := hr.lt
  have HK := Lib.hid (key_c w2 k)
  have HV := Lib.hid (of_c w2 ⟨kind, n, s⟩)
  clear hr hb
  cases hk : mayKey k
  · rw [hk] at HK
    have he : ok = false := by rw [HU.out]; simp [hk]
    have HE := Lib.hid he
    clear HU he
    go_wp2_with (go_at_call 37; refine HK.out.mono ?_; rintro e w3 ⟨rfl, rfl⟩)
    go_ret
    exact ⟨by rw [HE.out]; rfl, HB.out⟩
  · rw [hk] at HK
    cases gone
    · have he : ok = ofOk ⟨kind, n, s⟩ := by rw [HU.out]; simp [hk]
      have HE := Lib.hid he
      have HQ := Lib.hid (show ofErr ⟨kind, n, s⟩ = if ofOk ⟨kind, n, s⟩ then 0 else 1 from rfl)
      clear HU he
      generalize ofErr ⟨kind, n, s⟩ = err at *
      generalize ofOk ⟨kind, n, s⟩ = ok2 at *
      go_wp2_with (go_at_call 37; refine HK.out.mono ?_; rintro e w3 ⟨rfl, rfl⟩)
      refine HV.out.mono ?_
      rintro e w3 ⟨⟨u, hu, rfl⟩, bel⟩
      have B3 := Lib.hid (HB.out.trans (bel.mono hz))
      have Z3 := B3.out.size
      have hst : (store ⟨w3.heap.size, 0, none⟩ u).run Try.prog (w3.alloc (.cells #[.nilIface] 60)) = .ok () ((w3.alloc (.cells #[.nilIface] 60)).setCell ⟨w3.heap.size, 0, none⟩ u) := by
        have hb : Bl (w3.alloc (.cells #[.nilIface] 60)) w3.heap.size 60 [.nilIface] := Bl.new w3 60 [.nilIface]
        rw [run_store _ _ _ _ _ hu, hb.cell 0, hb.free 0]
        rfl
      clear bel
      cases ok2
      · have hq := HQ.out
        rw [if_neg (by decide)] at hq
        subst hq
        go_wp2_with (fail)
        go_ret
        exact ⟨by rw [HE.out]; rfl, B3.out.alloc Z3 _⟩
      · have hq := HQ.out
        rw [if_pos rfl] at hq
        subst hq
        go_wp2_with (fail)
        go_ret
        exact ⟨by rw [HE.out]; rfl, B3.out.alloc Z3 _⟩
    · have he : ok = (decide (kind = 0) && (decide (n = 0) && s.toList.isEmpty)) := by rw [HU.out, ← raw0_eq]; simp [hk]
      have HE := Lib.hid he
      clear HU he
      go_wp2_with (go_at_call 37; refine HK.out.mono ?_; rintro e w3 ⟨rfl, rfl⟩)
      all_goals
        go_ret
        refine ⟨?_, HB.out⟩
        rw [HE.out]
        simp [*]
end Go.Proofs.Ytjokghnlmaaejaa
