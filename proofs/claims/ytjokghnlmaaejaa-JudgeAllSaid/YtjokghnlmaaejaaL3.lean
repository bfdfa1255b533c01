import Derived.Test.YtjokghnlmaaejaaJ9
namespace Go.Proofs.Ytjokghnlmaaejaa
open Go.RowKit
/-! ### Cut, Recs -/
theorem results_cell_one {fn : Func} {t ty : Nat} (h : fn.results = #[.cell t ty]) (tmps : Array Value) (P : Program) (w : World) (ad : Addr) (hp : tmps.getD t undef = .pointer (some ad)) (v : Value) (hl : (loadVar ty ad).run P w = .ok v w) :
    (results fn tmps).run P w = .ok v w := by
  simp only [Array.getD_eq_getD_getElem?] at hp
  simp [results, h, hp, asAddr, hl]
def cutRaw (v : Raw) : Raw := ⟨v.kind, v.n, cutS v.s 30⟩
def cutR (r : RR) : RR := ⟨cutS r.k 20, r.gone, cutRaw r.v⟩
set_option maxHeartbeats 1000000 in
theorem cutRaw_c (w : World) (v : Raw) : Calls Try.prog 25 #[rawV v] w fun e w' => e = .returned (rawV (cutRaw v)) ∧ Below w.heap.size w w' := by
  obtain ⟨kind, n, s⟩ := v
  simp only [rawV, cutRaw]
  have hr : Bl ((w.alloc (.cells #[.int .i64 kind, .int .i64 n, .string s] 24)).alloc (.cells #[.int .i64 0, .int .i64 0, .string ⟨#[]⟩] 24)) w.heap.size 24 [.int .i64 kind, .int .i64 n, .string s] := (Bl.new w 24 _).alloc _
  have ho : Bl ((w.alloc (.cells #[.int .i64 kind, .int .i64 n, .string s] 24)).alloc (.cells #[.int .i64 0, .int .i64 0, .string ⟨#[]⟩] 24)) (w.heap.size + 1) 24 [.int .i64 0, .int .i64 0, .string ⟨#[]⟩] := by
    have := Bl.new (w.alloc (.cells #[.int .i64 kind, .int .i64 n, .string s] 24)) 24 [.int .i64 0, .int .i64 0, .string ⟨#[]⟩]
    simpa using this
  have hb : Below w.heap.size w ((w.alloc (.cells #[.int .i64 kind, .int .i64 n, .string s] 24)).alloc (.cells #[.int .i64 0, .int .i64 0, .string ⟨#[]⟩] 24)) := ((Below.refl _ _).alloc (Nat.le_refl _) _).alloc (by simp) _
  go_enter Try.func25, Try.ntmps25
  go_upto_region 1 with (fail)
  generalize (w.alloc (.cells #[.int .i64 kind, .int .i64 n, .string s] 24)).alloc (.cells #[.int .i64 0, .int .i64 0, .string ⟨#[]⟩] 24) = w2 at *
  have c2 : w2.cell? ⟨w.heap.size, 2, none⟩ = some (.string s) := hr.cell 2
  have f2 := hr.free 2
  have HC := Lib.hid (cutS_c w2 s 30)
  have hr3 := hr.set 2 (.string (cutS s 30))
  have hb3 := hb.setCell (p := ⟨w.heap.size, 2, none⟩) (Nat.le_refl _) (.string (cutS s 30))
  have ho3 := ho.setOther (p := ⟨w.heap.size, 2, none⟩) (by simp) (.string (cutS s 30))
  clear hr ho hb
  go_upto_region 2 with (go_at_call 10; refine HC.out.mono ?_; rintro e w3 ⟨rfl, rfl⟩)
  generalize w2.setCell ⟨w.heap.size, 2, none⟩ (.string (cutS s 30)) = w3 at *
  have d0 : w3.cell? ⟨w.heap.size, 0, none⟩ = some (.int .i64 kind) := hr3.cell 0
  have d1 : w3.cell? ⟨w.heap.size, 1, none⟩ = some (.int .i64 n) := hr3.cell 1
  have d2 : w3.cell? ⟨w.heap.size, 2, none⟩ = some (.string (cutS s 30)) := hr3.cell 2
  have r0 : w3.cell? ⟨w.heap.size + 1, 0, none⟩ = some (.int .i64 0) := ho3.cell 0
  have r1 : w3.cell? ⟨w.heap.size + 1, 1, none⟩ = some (.int .i64 0) := ho3.cell 1
  have r2 : w3.cell? ⟨w.heap.size + 1, 2, none⟩ = some (.string ⟨#[]⟩) := ho3.cell 2
  have q0 := ho3.free 0
  have q1 := ho3.free 1
  have q2 := ho3.free 2
  have HO := Lib.hid ho3
  have HB := Lib.hid hb3
  clear hr3 hb3 ho3
  go_wp2_with (fail)
  have hv2 : Bl (((w3.setCell ⟨w.heap.size + 1, 0, none⟩ (.int .i64 kind)).setCell ⟨w.heap.size + 1, 1, none⟩ (.int .i64 n)).setCell ⟨w.heap.size + 1, 2, none⟩ (.string (cutS s 30))) (w.heap.size + 1) 24 [.int .i64 kind, .int .i64 n, .string (cutS s 30)] := ((HO.out.set 0 (.int .i64 kind)).set 1 (.int .i64 n)).set 2 (.string (cutS s 30))
  (try simp only [Exit.inBlock, Exit.then])
  refine bodyPost_ret (results_cell_one rfl _ _ _ ⟨w.heap.size + 1, 0, none⟩ rfl _ (load24 hv2)) rfl ?_
  exact ⟨rfl, ((HB.out.setCell (p := ⟨w.heap.size + 1, 0, none⟩) (Nat.le_succ _) _).setCell (p := ⟨w.heap.size + 1, 1, none⟩) (Nat.le_succ _) _).setCell (p := ⟨w.heap.size + 1, 2, none⟩) (Nat.le_succ _) _⟩
theorem load26 {w : World} {b : Nat} {x0 x1 x2 x3 x4 : Value} (h : Bl w b 26 [x0, x1, x2, x3, x4]) : (loadVar 26 ⟨b, 0, none⟩).run Try.prog w = .ok (.agg #[x0, x1, x2, x3, x4]) w :=
  run_load_seg (m := 5) h Try.underlying26 rfl (by kernel_rfl) (by simp)
set_option maxHeartbeats 2000000 in
theorem cutR_c (w : World) (r : RR) : Calls Try.prog 9 #[rrV r] w fun e w' => e = .returned (rrV (cutR r)) ∧ Below w.heap.size w w' := by
  have HV := Lib.hid fun W : World => cutRaw_c W r.v
  have HK := Lib.hid fun W : World => cutS_c W r.k 20
  obtain ⟨k, gone, ⟨kind, n, s⟩⟩ := r
  simp only [rrV, rawV, cutR, cutRaw] at *
  have hr : Bl ((w.alloc (.cells #[.string k, .bool gone, .int .i64 kind, .int .i64 n, .string s] 26)).alloc (.cells #[.string ⟨#[]⟩, .bool false, .int .i64 0, .int .i64 0, .string ⟨#[]⟩] 26)) w.heap.size 26 [.string k, .bool gone, .int .i64 kind, .int .i64 n, .string s] := (Bl.new w 26 _).alloc _
  have ho : Bl ((w.alloc (.cells #[.string k, .bool gone, .int .i64 kind, .int .i64 n, .string s] 26)).alloc (.cells #[.string ⟨#[]⟩, .bool false, .int .i64 0, .int .i64 0, .string ⟨#[]⟩] 26)) (w.heap.size + 1) 26 [.string ⟨#[]⟩, .bool false, .int .i64 0, .int .i64 0, .string ⟨#[]⟩] := by
    have := Bl.new (w.alloc (.cells #[.string k, .bool gone, .int .i64 kind, .int .i64 n, .string s] 26)) 26 [.string ⟨#[]⟩, .bool false, .int .i64 0, .int .i64 0, .string ⟨#[]⟩]
    simpa using this
  have hb : Below w.heap.size w ((w.alloc (.cells #[.string k, .bool gone, .int .i64 kind, .int .i64 n, .string s] 26)).alloc (.cells #[.string ⟨#[]⟩, .bool false, .int .i64 0, .int .i64 0, .string ⟨#[]⟩] 26)) := ((Below.refl _ _).alloc (Nat.le_refl _) _).alloc (by simp) _
  go_enter Try.func9, Try.ntmps9
  go_upto_region 1 with (fail)
  generalize (w.alloc (.cells #[.string k, .bool gone, .int .i64 kind, .int .i64 n, .string s] 26)).alloc (.cells #[.string ⟨#[]⟩, .bool false, .int .i64 0, .int .i64 0, .string ⟨#[]⟩] 26) = w2 at *
  have c0 : w2.cell? ⟨w.heap.size, 0, none⟩ = some (.string k) := hr.cell 0
  have c2 : w2.cell? ⟨w.heap.size, 2, none⟩ = some (.int .i64 kind) := hr.cell 2
  have c3 : w2.cell? ⟨w.heap.size, 3, none⟩ = some (.int .i64 n) := hr.cell 3
  have c4 : w2.cell? ⟨w.heap.size, 4, none⟩ = some (.string s) := hr.cell 4
  have hlt := hr.lt
  have hlo := ho.lt
  have hz := hb.size
  have HR := Lib.hid hr
  have HO := Lib.hid ho
  have HB := Lib.hid hb
  clear hr ho hb
  go_region_with (first
    | (go_at_call 10; refine (HK.out _).mono ?_; rintro e w3 ⟨rfl, rfl⟩)
    | (go_at_call 25; refine (HV.out _).mono ?_; rintro e w4 ⟨rfl, bel⟩; have hr4 := HR.out.drew.below bel hlt; have e0 : w4.cell? ⟨w.heap.size, 0, none⟩ = some (.string k) := hr4.cell 0; have e2 : w4.cell? ⟨w.heap.size, 2, none⟩ = some (.int .i64 kind) := hr4.cell 2; have e3 : w4.cell? ⟨w.heap.size, 3, none⟩ = some (.int .i64 n) := hr4.cell 3; have e4 : w4.cell? ⟨w.heap.size, 4, none⟩ = some (.string s) := hr4.cell 4; have g0 := hr4.free 0; have g2 := hr4.free 2; have g3 := hr4.free 3; have g4 := hr4.free 4; have HR4 := Lib.hid hr4; have HO4 := Lib.hid (HO.out.drew.below bel hlo); have HB4 := Lib.hid (HB.out.drew.trans (bel.mono hz)); clear bel hr4))
  all_goals
    have hr5 : Bl ((((w4.setCell ⟨w.heap.size, 0, none⟩ (.string (cutS k 20))).setCell ⟨w.heap.size, 2, none⟩ (.int .i64 kind)).setCell ⟨w.heap.size, 3, none⟩ (.int .i64 n)).setCell ⟨w.heap.size, 4, none⟩ (.string (cutS s 30))) w.heap.size 26 [.string (cutS k 20), .bool gone, .int .i64 kind, .int .i64 n, .string (cutS s 30)] := (((HR4.out.set 0 (.string (cutS k 20))).set 2 (.int .i64 kind)).set 3 (.int .i64 n)).set 4 (.string (cutS s 30))
    have fr : Fr [w.heap.size] w4 ((((w4.setCell ⟨w.heap.size, 0, none⟩ (.string (cutS k 20))).setCell ⟨w.heap.size, 2, none⟩ (.int .i64 kind)).setCell ⟨w.heap.size, 3, none⟩ (.int .i64 n)).setCell ⟨w.heap.size, 4, none⟩ (.string (cutS s 30))) := ((((Fr.refl _ _).setCell (by simp) _).setCell (by simp) _).setCell (by simp) _).setCell (by simp) _
    have ho5 := HO4.out.fr fr (by simp)
    have hb5 := HB4.out.trans (fr.below (B := w.heap.size) HB4.out.size (by simp))
    clear fr e0 e2 e3 e4 g0 g2 g3 g4 c0 c2 c3 c4
    generalize ((((w4.setCell ⟨w.heap.size, 0, none⟩ (.string (cutS k 20))).setCell ⟨w.heap.size, 2, none⟩ (.int .i64 kind)).setCell ⟨w.heap.size, 3, none⟩ (.int .i64 n)).setCell ⟨w.heap.size, 4, none⟩ (.string (cutS s 30))) = w5 at *
    have d0 : w5.cell? ⟨w.heap.size, 0, none⟩ = some (.string (cutS k 20)) := hr5.cell 0
    have d1 : w5.cell? ⟨w.heap.size, 1, none⟩ = some (.bool gone) := hr5.cell 1
    have d2 : w5.cell? ⟨w.heap.size, 2, none⟩ = some (.int .i64 kind) := hr5.cell 2
    have d3 : w5.cell? ⟨w.heap.size, 3, none⟩ = some (.int .i64 n) := hr5.cell 3
    have d4 : w5.cell? ⟨w.heap.size, 4, none⟩ = some (.string (cutS s 30)) := hr5.cell 4
    have r0 : w5.cell? ⟨w.heap.size + 1, 0, none⟩ = some (.string ⟨#[]⟩) := ho5.cell 0
    have r1 : w5.cell? ⟨w.heap.size + 1, 1, none⟩ = some (.bool false) := ho5.cell 1
    have r2 : w5.cell? ⟨w.heap.size + 1, 2, none⟩ = some (.int .i64 0) := ho5.cell 2
    have r3 : w5.cell? ⟨w.heap.size + 1, 3, none⟩ = some (.int .i64 0) := ho5.cell 3
    have r4 : w5.cell? ⟨w.heap.size + 1, 4, none⟩ = some (.string ⟨#[]⟩) := ho5.cell 4
    have q0 := ho5.free 0
    have q1 := ho5.free 1
    have q2 := ho5.free 2
    have q3 := ho5.free 3
    have q4 := ho5.free 4
    have HO5 := Lib.hid ho5
    have HB5 := Lib.hid hb5
    clear hr5 ho5 hb5
    go_wp2_with (fail)
    have hv2 : Bl (((((w5.setCell ⟨w.heap.size + 1, 0, none⟩ (.string (cutS k 20))).setCell ⟨w.heap.size + 1, 1, none⟩ (.bool gone)).setCell ⟨w.heap.size + 1, 2, none⟩ (.int .i64 kind)).setCell ⟨w.heap.size + 1, 3, none⟩ (.int .i64 n)).setCell ⟨w.heap.size + 1, 4, none⟩ (.string (cutS s 30))) (w.heap.size + 1) 26 [.string (cutS k 20), .bool gone, .int .i64 kind, .int .i64 n, .string (cutS s 30)] := ((((HO5.out.set 0 (.string (cutS k 20))).set 1 (.bool gone)).set 2 (.int .i64 kind)).set 3 (.int .i64 n)).set 4 (.string (cutS s 30))
    have fr2 : Fr [w.heap.size + 1] w5 (((((w5.setCell ⟨w.heap.size + 1, 0, none⟩ (.string (cutS k 20))).setCell ⟨w.heap.size + 1, 1, none⟩ (.bool gone)).setCell ⟨w.heap.size + 1, 2, none⟩ (.int .i64 kind)).setCell ⟨w.heap.size + 1, 3, none⟩ (.int .i64 n)).setCell ⟨w.heap.size + 1, 4, none⟩ (.string (cutS s 30))) := (((((Fr.refl _ _).setCell (by simp) _).setCell (by simp) _).setCell (by simp) _).setCell (by simp) _).setCell (by simp) _
    (try simp only [Exit.inBlock, Exit.then])
    refine bodyPost_ret (results_cell_one rfl _ _ _ ⟨w.heap.size + 1, 0, none⟩ rfl _ (load26 hv2)) rfl ?_
    exact ⟨rfl, HB5.out.trans (fr2.below (B := w.heap.size) HB5.out.size (by simp))⟩
end Go.Proofs.Ytjokghnlmaaejaa
