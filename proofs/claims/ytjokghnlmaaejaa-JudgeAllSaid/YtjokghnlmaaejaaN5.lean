import Derived.Test.YtjokghnlmaaejaaN0
namespace Go.Proofs.Ytjokghnlmaaejaa
open Go.RowKit
theorem lawSet_push {w : World} {base n : Nat} {v : Value} {out : List PR} {y : PR} (h : w.ownsRow base 48 4 v n (prs out ++ prs [y])) (hn : n = (out ++ [y]).length) : w.ownsRow base 48 4 v (out ++ [y]).length (prs (out ++ [y])) := by
  subst hn
  rw [prs_app]
  exact h
set_option maxHeartbeats 8000000 in
set_option maxRecDepth 100000 in
theorem lawSet_c (w : World) (v : Value) (l : List PR) (r : RR) (h : Sp w w.heap.size v l) (hl : l.length ≤ 900) :
    Calls Try.prog 20 #[v, rrV r] w fun e w' => (∃ u, e = .returned u ∧ Sp w' w'.heap.size u (lawSetF l r)) ∧ Below w.heap.size w w' := by
  have hfin : lawSetF l r = if (setFold PR.k r.k (lawSetN r) (lawSetD r) l).1 then (setFold PR.k r.k (lawSetN r) (lawSetD r) l).2 else (setFold PR.k r.k (lawSetN r) (lawSetD r) l).2 ++ [lawSetN r] := rfl
  have hst : ∀ j (hj : j < l.length), setFold PR.k r.k (lawSetN r) (lawSetD r) (l.take (j + 1)) = setStep PR.k r.k (lawSetN r) (setFold PR.k r.k (lawSetN r) (lawSetD r) (l.take j)) l[j] := fun j hj => setFold_succ _ _ _ _ l hj
  have hln : ∀ j, (setFold PR.k r.k (lawSetN r) (lawSetD r) (l.take j)).2.length ≤ 2 * j := fun j => setFold_len _ _ _ _ l j
  have hse : ∀ (D : Bool) (OUT : List PR) (x : PR), setStep PR.k r.k (lawSetN r) (D, OUT) x = (D || !lessB x.k r.k, (if (!D && !lessB x.k r.k) then OUT ++ [lawSetN r] else OUT) ++ (if x.k = r.k then [] else [x])) := fun D OUT x => setStep_eq _ _ _ D OUT x
  have hd0 : lawSetD r = r.gone := rfl
  have HFIN := Lib.hid hfin
  have HST := Lib.hid hst
  have HLN := Lib.hid hln
  have HSE := Lib.hid hse
  clear hfin hst hln hse
  generalize lawSetF l r = res at *
  have hnew : lawSetN r = ⟨r.k, r.v⟩ := rfl
  rw [hnew] at HFIN HST HLN HSE
  rw [hd0] at HFIN HST HLN
  clear hnew hd0
  obtain ⟨k, gone, ⟨kind, n, s⟩⟩ := r
  simp only [rrV] at *
  obtain ⟨a, cap, rfl, _⟩ := Sv.form h
  have hr : Bl (w.alloc (.cells #[.string k, .bool gone, .int .i64 kind, .int .i64 n, .string s] 26)) w.heap.size 26 [.string k, .bool gone, .int .i64 kind, .int .i64 n, .string s] := Bl.new w 26 _
  have hb0 : Below w.heap.size w (w.alloc (.cells #[.string k, .bool gone, .int .i64 kind, .int .i64 n, .string s] 26)) := (Below.refl _ _).alloc (Nat.le_refl _) _
  have H := Lib.hid h
  clear h
  go_enter Try.func20, Try.ntmps20
  go_upto_region 1 with (fail)
  generalize w.alloc (.cells #[.string k, .bool gone, .int .i64 kind, .int .i64 n, .string s] 26) = w1 at *
  have hz1 := hb0.size
  have hlt1 := hr.lt
  have H1 : Sp w1 w1.heap.size (.slice a l.length cap) l := Sv.below H.out hz1 hb0 (Nat.le_refl _)
  have bg : w1.cell? ⟨w.heap.size, 1, none⟩ = some (.bool gone) := hr.cell 1
  have HR := Lib.hid hr
  have HB := Lib.hid hb0
  clear hr hb0
  go_wp2_with (fail)
  clear bg
  go_loopg [5, 6, 7] l.length (fun q out dn i wr => ∃ (j : Nat) (D : Bool) (OUT : List PR), j + q = l.length ∧ i = .int .i64 (j : Int) ∧ dn = .bool D ∧ setFold PR.k k ⟨k, ⟨kind, n, s⟩⟩ gone (l.take j) = (D, OUT) ∧ wr.ownsRow w1.heap.size 48 4 out OUT.length (prs OUT) ∧ Below w1.heap.size w1 wr)
  case atStart => exact ⟨0, gone, [], by omega, rfl, rfl, rfl, World.ownsRow_nil _ _ _ _, Below.refl _ _⟩
  case round =>
    obtain ⟨j, D, OUT, hj, rfl, rfl, hfold, own, bel⟩ := hrel
    have O2 := Lib.hid own
    have B2 := Lib.hid bel
    have HF := Lib.hid hfold
    have hlen : OUT.length ≤ 2 * j := by have := HLN.out j; rw [hfold] at this; exact this
    clear own bel hfold
    by_cases hlt : j < l.length
    · obtain ⟨b, off, rfl, hb, y0, y1, y2, y3⟩ := H1.at_ j hlt
      have i4 : (j : Int) < (l.length : Int) := by omega
      have hnx := HST.out j hlt
      rw [HF.out] at hnx
      generalize l[j] = X at *
      rw [HSE.out] at hnx
      have HNX := Lib.hid hnx
      clear hnx
      have X0 := Lib.hid y0
      have X1 := Lib.hid y1
      have X2 := Lib.hid y2
      have X3 := Lib.hid y3
      clear y0 y1 y2 y3
      cases D
      · cases hlb : lessB X.k k
        · have HLB := Lib.hid hlb
          have hq1 : Op.bytesLess X.k.toList k.toList = false := hlb
          clear hlb
          have hbx := HR.out.below B2.out hlt1
          have c0 : wr.cell? ⟨w.heap.size, 0, none⟩ = some (.string k) := hbx.cell 0
          have c1 : wr.cell? ⟨w.heap.size, 1, none⟩ = some (.bool gone) := hbx.cell 1
          have c2 : wr.cell? ⟨w.heap.size, 2, none⟩ = some (.int .i64 kind) := hbx.cell 2
          have c3 : wr.cell? ⟨w.heap.size, 3, none⟩ = some (.int .i64 n) := hbx.cell 3
          have c4 : wr.cell? ⟨w.heap.size, 4, none⟩ = some (.string s) := hbx.cell 4
          clear hbx
          have x0 : wr.cell? ⟨b, off + j * 4, none⟩ = some (.string X.k) := ((B2.out).cell (p := ⟨b, off + j * 4, none⟩) hb).trans X0.out
          have x1 : wr.cell? ⟨b, off + j * 4 + 1, none⟩ = some (.int .i64 X.v.kind) := ((B2.out).cell (p := ⟨b, off + j * 4 + 1, none⟩) hb).trans X1.out
          have x2 : wr.cell? ⟨b, off + j * 4 + 2, none⟩ = some (.int .i64 X.v.n) := ((B2.out).cell (p := ⟨b, off + j * 4 + 2, none⟩) hb).trans X2.out
          have x3 : wr.cell? ⟨b, off + j * 4 + 3, none⟩ = some (.string X.v.s) := ((B2.out).cell (p := ⟨b, off + j * 4 + 3, none⟩) hb).trans X3.out
          go_upto_region 6 with (fail)
          go_quiet (fail)
          clear c0 c1 c2 c3 c4 x0 x1 x2 x3
          clear hq1
          have fq : Fr [] wr (wr.drewN nq) := (Fr.refl _ _).drewN nq
          have O3 := Lib.hid (ownsRow_fr O2.out fq (by simp))
          have B3 := Lib.hid ((B2.out).trans (fq.nil.mono (B2.out).size))
          clear fq
          generalize wr.drewN nq = w3 at *
          have hbx := HR.out.below B3.out hlt1
          have c0 : w3.cell? ⟨w.heap.size, 0, none⟩ = some (.string k) := hbx.cell 0
          have c1 : w3.cell? ⟨w.heap.size, 1, none⟩ = some (.bool gone) := hbx.cell 1
          have c2 : w3.cell? ⟨w.heap.size, 2, none⟩ = some (.int .i64 kind) := hbx.cell 2
          have c3 : w3.cell? ⟨w.heap.size, 3, none⟩ = some (.int .i64 n) := hbx.cell 3
          have c4 : w3.cell? ⟨w.heap.size, 4, none⟩ = some (.string s) := hbx.cell 4
          clear hbx
          have own_a := ownsRow_fr O3.out ((Fr.refl [] w3).alloc (.cells (prs [⟨k, ⟨kind, n, s⟩⟩]).toArray 48)) (by simp)
          have hbl_a : Bl (w3.alloc (.cells (prs [⟨k, ⟨kind, n, s⟩⟩]).toArray 48)) w3.heap.size 48 (prs [⟨k, ⟨kind, n, s⟩⟩]) := Bl.new _ _ _
          have sv_a := hbl_a.sv (B := (w3.alloc (.cells (prs [⟨k, ⟨kind, n, s⟩⟩]).toArray 48)).heap.size) 4 0 1 1 (by simp) (by rw [prs_len]; simp) (by omega) (by simp [maxLen])
          rw [List.drop_zero, List.take_of_length_le (by rw [prs_len]; simp)] at sv_a
          have OA := Lib.hid own_a
          have SA := Lib.hid sv_a
          have BA := Lib.hid ((B3.out).alloc (B3.out).size (.cells (prs [⟨k, ⟨kind, n, s⟩⟩]).toArray 48))
          clear own_a hbl_a sv_a
          go_upto_region 8 with (at_builtin; refine wpList_appN (.tmp 28) (.tmp 34) 22 rfl rfl w1.heap.size 48 _ 4 48 und22 info48 rfl (by decide) _ (OUT).length (prs (OUT)) rfl OA.out _ 1 _ (prs [⟨k, ⟨kind, n, s⟩⟩]) rfl SA.out (prs_one _) ?a5 ?a6 ?a7 ?_)
          case a5 => (try simp only [List.length_append, List.length_cons, List.length_nil]); unfold maxLen; omega
          case a6 => (try simp only [List.length_append, List.length_cons, List.length_nil]); omega
          case a7 => first | exact BA.out.size | exact Nat.le_succ_of_le (B3).out.size
          intro v4 w4 own4 g4 hn4
          have O4 := Lib.hid (lawSet_push own4 (by first | (simp; done) | (simp; omega)))
          have B4 := Lib.hid (BA.out.grown g4 BA.out.size (fun j hj => own_ge OA.out hj (Nat.le_refl _)))
          clear own4 g4 hn4 OA SA BA
          clear c0 c1 c2 c3 c4
          obtain ⟨OU, hOU⟩ : ∃ OU, OU = OUT ++ [⟨k, ⟨kind, n, s⟩⟩] := ⟨_, rfl⟩
          rw [← hOU] at O4
          have HOU := Lib.hid hOU
          have hOl : OU.length = OUT.length + 1 := by rw [hOU]; simp
          clear hOU
          by_cases heq : X.k = k
          · have HEQ := Lib.hid heq
            have hbx := HR.out.below B4.out hlt1
            have c0 : w4.cell? ⟨w.heap.size, 0, none⟩ = some (.string k) := hbx.cell 0
            have c1 : w4.cell? ⟨w.heap.size, 1, none⟩ = some (.bool gone) := hbx.cell 1
            have c2 : w4.cell? ⟨w.heap.size, 2, none⟩ = some (.int .i64 kind) := hbx.cell 2
            have c3 : w4.cell? ⟨w.heap.size, 3, none⟩ = some (.int .i64 n) := hbx.cell 3
            have c4 : w4.cell? ⟨w.heap.size, 4, none⟩ = some (.string s) := hbx.cell 4
            clear hbx
            have x0 : w4.cell? ⟨b, off + j * 4, none⟩ = some (.string X.k) := ((B4.out).cell (p := ⟨b, off + j * 4, none⟩) hb).trans X0.out
            have x1 : w4.cell? ⟨b, off + j * 4 + 1, none⟩ = some (.int .i64 X.v.kind) := ((B4.out).cell (p := ⟨b, off + j * 4 + 1, none⟩) hb).trans X1.out
            have x2 : w4.cell? ⟨b, off + j * 4 + 2, none⟩ = some (.int .i64 X.v.n) := ((B4.out).cell (p := ⟨b, off + j * 4 + 2, none⟩) hb).trans X2.out
            have x3 : w4.cell? ⟨b, off + j * 4 + 3, none⟩ = some (.string X.v.s) := ((B4.out).cell (p := ⟨b, off + j * 4 + 3, none⟩) hb).trans X3.out
            have hb2 : (X.k.toList == k.toList) = true := by rw [heq]; simp
            clear heq
            go_upto_region 9 with (fail)
            go_quiet (fail)
            clear hb2 c0 c1 c2 c3 c4 x0 x1 x2 x3
            have fq : Fr [] w4 (w4.drewN nq) := (Fr.refl _ _).drewN nq
            have O5 := Lib.hid (ownsRow_fr O4.out fq (by simp))
            have B5 := Lib.hid ((B4.out).trans (fq.nil.mono (B4.out).size))
            clear fq
            generalize w4.drewN nq = w5 at *
            go_wp2_with (fail)
            go_roundg (l.length - (j + 1))
            case measure => omega
            case rel => exact ⟨j + 1, true, OU, by omega, by go_num, rfl, by rw [HNX.out, HLB.out, if_pos HEQ.out, HOU.out]; simp, O5.out, B5.out⟩
          · have HEQ := Lib.hid heq
            have hbx := HR.out.below B4.out hlt1
            have c0 : w4.cell? ⟨w.heap.size, 0, none⟩ = some (.string k) := hbx.cell 0
            have c1 : w4.cell? ⟨w.heap.size, 1, none⟩ = some (.bool gone) := hbx.cell 1
            have c2 : w4.cell? ⟨w.heap.size, 2, none⟩ = some (.int .i64 kind) := hbx.cell 2
            have c3 : w4.cell? ⟨w.heap.size, 3, none⟩ = some (.int .i64 n) := hbx.cell 3
            have c4 : w4.cell? ⟨w.heap.size, 4, none⟩ = some (.string s) := hbx.cell 4
            clear hbx
            have x0 : w4.cell? ⟨b, off + j * 4, none⟩ = some (.string X.k) := ((B4.out).cell (p := ⟨b, off + j * 4, none⟩) hb).trans X0.out
            have x1 : w4.cell? ⟨b, off + j * 4 + 1, none⟩ = some (.int .i64 X.v.kind) := ((B4.out).cell (p := ⟨b, off + j * 4 + 1, none⟩) hb).trans X1.out
            have x2 : w4.cell? ⟨b, off + j * 4 + 2, none⟩ = some (.int .i64 X.v.n) := ((B4.out).cell (p := ⟨b, off + j * 4 + 2, none⟩) hb).trans X2.out
            have x3 : w4.cell? ⟨b, off + j * 4 + 3, none⟩ = some (.string X.v.s) := ((B4.out).cell (p := ⟨b, off + j * 4 + 3, none⟩) hb).trans X3.out
            have hb2 := bytes_ne heq
            clear heq
            go_upto_region 9 with (fail)
            go_quiet (fail)
            clear hb2 c0 c1 c2 c3 c4 x0 x1 x2 x3
            have fq : Fr [] w4 (w4.drewN nq) := (Fr.refl _ _).drewN nq
            have O5 := Lib.hid (ownsRow_fr O4.out fq (by simp))
            have B5 := Lib.hid ((B4.out).trans (fq.nil.mono (B4.out).size))
            clear fq
            generalize w4.drewN nq = w5 at *
            have x0 : w5.cell? ⟨b, off + j * 4, none⟩ = some (.string X.k) := ((B5.out).cell (p := ⟨b, off + j * 4, none⟩) hb).trans X0.out
            have x1 : w5.cell? ⟨b, off + j * 4 + 1, none⟩ = some (.int .i64 X.v.kind) := ((B5.out).cell (p := ⟨b, off + j * 4 + 1, none⟩) hb).trans X1.out
            have x2 : w5.cell? ⟨b, off + j * 4 + 2, none⟩ = some (.int .i64 X.v.n) := ((B5.out).cell (p := ⟨b, off + j * 4 + 2, none⟩) hb).trans X2.out
            have x3 : w5.cell? ⟨b, off + j * 4 + 3, none⟩ = some (.string X.v.s) := ((B5.out).cell (p := ⟨b, off + j * 4 + 3, none⟩) hb).trans X3.out
            have own_a := ownsRow_fr O5.out ((Fr.refl [] w5).alloc (.cells (prs [X]).toArray 48)) (by simp)
            have hbl_a : Bl (w5.alloc (.cells (prs [X]).toArray 48)) w5.heap.size 48 (prs [X]) := Bl.new _ _ _
            have sv_a := hbl_a.sv (B := (w5.alloc (.cells (prs [X]).toArray 48)).heap.size) 4 0 1 1 (by simp) (by rw [prs_len]; simp) (by omega) (by simp [maxLen])
            rw [List.drop_zero, List.take_of_length_le (by rw [prs_len]; simp)] at sv_a
            have OA := Lib.hid own_a
            have SA := Lib.hid sv_a
            have BA := Lib.hid ((B5.out).alloc (B5.out).size (.cells (prs [X]).toArray 48))
            clear own_a hbl_a sv_a
            go_wp2_with (at_builtin; refine wpList_appN (.tmp 44) (.tmp 49) 22 rfl rfl w1.heap.size 48 _ 4 48 und22 info48 rfl (by decide) _ (OU).length (prs (OU)) rfl OA.out _ 1 _ (prs [X]) rfl SA.out (prs_one _) ?a5 ?a6 ?a7 ?_)
            case a5 => (try simp only [List.length_append, List.length_cons, List.length_nil]); unfold maxLen; omega
            case a6 => (try simp only [List.length_append, List.length_cons, List.length_nil]); omega
            case a7 => first | exact BA.out.size | exact Nat.le_succ_of_le (B5).out.size
            intro v6 w6 own6 g6 hn6
            have O6 := Lib.hid (lawSet_push own6 (by first | (simp; done) | (simp; omega)))
            have B6 := Lib.hid (BA.out.grown g6 BA.out.size (fun j hj => own_ge OA.out hj (Nat.le_refl _)))
            clear own6 g6 hn6 OA SA BA
            go_wp2_with (fail)
            go_roundg (l.length - (j + 1))
            case measure => omega
            case rel => exact ⟨j + 1, true, OU ++ [X], by omega, by go_num, rfl, by rw [HNX.out, HLB.out, if_neg HEQ.out, HOU.out]; simp, O6.out, B6.out⟩
        · have HLB := Lib.hid hlb
          have hq1 : Op.bytesLess X.k.toList k.toList = true := hlb
          clear hlb
          have hbx := HR.out.below B2.out hlt1
          have c0 : wr.cell? ⟨w.heap.size, 0, none⟩ = some (.string k) := hbx.cell 0
          have c1 : wr.cell? ⟨w.heap.size, 1, none⟩ = some (.bool gone) := hbx.cell 1
          have c2 : wr.cell? ⟨w.heap.size, 2, none⟩ = some (.int .i64 kind) := hbx.cell 2
          have c3 : wr.cell? ⟨w.heap.size, 3, none⟩ = some (.int .i64 n) := hbx.cell 3
          have c4 : wr.cell? ⟨w.heap.size, 4, none⟩ = some (.string s) := hbx.cell 4
          clear hbx
          have x0 : wr.cell? ⟨b, off + j * 4, none⟩ = some (.string X.k) := ((B2.out).cell (p := ⟨b, off + j * 4, none⟩) hb).trans X0.out
          have x1 : wr.cell? ⟨b, off + j * 4 + 1, none⟩ = some (.int .i64 X.v.kind) := ((B2.out).cell (p := ⟨b, off + j * 4 + 1, none⟩) hb).trans X1.out
          have x2 : wr.cell? ⟨b, off + j * 4 + 2, none⟩ = some (.int .i64 X.v.n) := ((B2.out).cell (p := ⟨b, off + j * 4 + 2, none⟩) hb).trans X2.out
          have x3 : wr.cell? ⟨b, off + j * 4 + 3, none⟩ = some (.string X.v.s) := ((B2.out).cell (p := ⟨b, off + j * 4 + 3, none⟩) hb).trans X3.out
          go_upto_region 6 with (fail)
          go_quiet (fail)
          clear c0 c1 c2 c3 c4 x0 x1 x2 x3
          clear hq1
          have fq : Fr [] wr (wr.drewN nq) := (Fr.refl _ _).drewN nq
          have O3 := Lib.hid (ownsRow_fr O2.out fq (by simp))
          have B3 := Lib.hid ((B2.out).trans (fq.nil.mono (B2.out).size))
          clear fq
          generalize wr.drewN nq = w3 at *
          by_cases heq : X.k = k
          · have HEQ := Lib.hid heq
            have hbx := HR.out.below B3.out hlt1
            have c0 : w3.cell? ⟨w.heap.size, 0, none⟩ = some (.string k) := hbx.cell 0
            have c1 : w3.cell? ⟨w.heap.size, 1, none⟩ = some (.bool gone) := hbx.cell 1
            have c2 : w3.cell? ⟨w.heap.size, 2, none⟩ = some (.int .i64 kind) := hbx.cell 2
            have c3 : w3.cell? ⟨w.heap.size, 3, none⟩ = some (.int .i64 n) := hbx.cell 3
            have c4 : w3.cell? ⟨w.heap.size, 4, none⟩ = some (.string s) := hbx.cell 4
            clear hbx
            have x0 : w3.cell? ⟨b, off + j * 4, none⟩ = some (.string X.k) := ((B3.out).cell (p := ⟨b, off + j * 4, none⟩) hb).trans X0.out
            have x1 : w3.cell? ⟨b, off + j * 4 + 1, none⟩ = some (.int .i64 X.v.kind) := ((B3.out).cell (p := ⟨b, off + j * 4 + 1, none⟩) hb).trans X1.out
            have x2 : w3.cell? ⟨b, off + j * 4 + 2, none⟩ = some (.int .i64 X.v.n) := ((B3.out).cell (p := ⟨b, off + j * 4 + 2, none⟩) hb).trans X2.out
            have x3 : w3.cell? ⟨b, off + j * 4 + 3, none⟩ = some (.string X.v.s) := ((B3.out).cell (p := ⟨b, off + j * 4 + 3, none⟩) hb).trans X3.out
            have hb2 : (X.k.toList == k.toList) = true := by rw [heq]; simp
            clear heq
            go_upto_region 9 with (fail)
            go_quiet (fail)
            clear hb2 c0 c1 c2 c3 c4 x0 x1 x2 x3
            have fq : Fr [] w3 (w3.drewN nq) := (Fr.refl _ _).drewN nq
            have O4 := Lib.hid (ownsRow_fr O3.out fq (by simp))
            have B4 := Lib.hid ((B3.out).trans (fq.nil.mono (B3.out).size))
            clear fq
            generalize w3.drewN nq = w4 at *
            go_wp2_with (fail)
            go_roundg (l.length - (j + 1))
            case measure => omega
            case rel => exact ⟨j + 1, false, OUT, by omega, by go_num, rfl, by rw [HNX.out, HLB.out, if_pos HEQ.out]; simp, O4.out, B4.out⟩
          · have HEQ := Lib.hid heq
            have hbx := HR.out.below B3.out hlt1
            have c0 : w3.cell? ⟨w.heap.size, 0, none⟩ = some (.string k) := hbx.cell 0
            have c1 : w3.cell? ⟨w.heap.size, 1, none⟩ = some (.bool gone) := hbx.cell 1
            have c2 : w3.cell? ⟨w.heap.size, 2, none⟩ = some (.int .i64 kind) := hbx.cell 2
            have c3 : w3.cell? ⟨w.heap.size, 3, none⟩ = some (.int .i64 n) := hbx.cell 3
            have c4 : w3.cell? ⟨w.heap.size, 4, none⟩ = some (.string s) := hbx.cell 4
            clear hbx
            have x0 : w3.cell? ⟨b, off + j * 4, none⟩ = some (.string X.k) := ((B3.out).cell (p := ⟨b, off + j * 4, none⟩) hb).trans X0.out
            have x1 : w3.cell? ⟨b, off + j * 4 + 1, none⟩ = some (.int .i64 X.v.kind) := ((B3.out).cell (p := ⟨b, off + j * 4 + 1, none⟩) hb).trans X1.out
            have x2 : w3.cell? ⟨b, off + j * 4 + 2, none⟩ = some (.int .i64 X.v.n) := ((B3.out).cell (p := ⟨b, off + j * 4 + 2, none⟩) hb).trans X2.out
            have x3 : w3.cell? ⟨b, off + j * 4 + 3, none⟩ = some (.string X.v.s) := ((B3.out).cell (p := ⟨b, off + j * 4 + 3, none⟩) hb).trans X3.out
            have hb2 := bytes_ne heq
            clear heq
            go_upto_region 9 with (fail)
            go_quiet (fail)
            clear hb2 c0 c1 c2 c3 c4 x0 x1 x2 x3
            have fq : Fr [] w3 (w3.drewN nq) := (Fr.refl _ _).drewN nq
            have O4 := Lib.hid (ownsRow_fr O3.out fq (by simp))
            have B4 := Lib.hid ((B3.out).trans (fq.nil.mono (B3.out).size))
            clear fq
            generalize w3.drewN nq = w4 at *
            have x0 : w4.cell? ⟨b, off + j * 4, none⟩ = some (.string X.k) := ((B4.out).cell (p := ⟨b, off + j * 4, none⟩) hb).trans X0.out
            have x1 : w4.cell? ⟨b, off + j * 4 + 1, none⟩ = some (.int .i64 X.v.kind) := ((B4.out).cell (p := ⟨b, off + j * 4 + 1, none⟩) hb).trans X1.out
            have x2 : w4.cell? ⟨b, off + j * 4 + 2, none⟩ = some (.int .i64 X.v.n) := ((B4.out).cell (p := ⟨b, off + j * 4 + 2, none⟩) hb).trans X2.out
            have x3 : w4.cell? ⟨b, off + j * 4 + 3, none⟩ = some (.string X.v.s) := ((B4.out).cell (p := ⟨b, off + j * 4 + 3, none⟩) hb).trans X3.out
            have own_a := ownsRow_fr O4.out ((Fr.refl [] w4).alloc (.cells (prs [X]).toArray 48)) (by simp)
            have hbl_a : Bl (w4.alloc (.cells (prs [X]).toArray 48)) w4.heap.size 48 (prs [X]) := Bl.new _ _ _
            have sv_a := hbl_a.sv (B := (w4.alloc (.cells (prs [X]).toArray 48)).heap.size) 4 0 1 1 (by simp) (by rw [prs_len]; simp) (by omega) (by simp [maxLen])
            rw [List.drop_zero, List.take_of_length_le (by rw [prs_len]; simp)] at sv_a
            have OA := Lib.hid own_a
            have SA := Lib.hid sv_a
            have BA := Lib.hid ((B4.out).alloc (B4.out).size (.cells (prs [X]).toArray 48))
            clear own_a hbl_a sv_a
            go_wp2_with (at_builtin; refine wpList_appN (.tmp 44) (.tmp 49) 22 rfl rfl w1.heap.size 48 _ 4 48 und22 info48 rfl (by decide) _ (OUT).length (prs (OUT)) rfl OA.out _ 1 _ (prs [X]) rfl SA.out (prs_one _) ?a5 ?a6 ?a7 ?_)
            case a5 => (try simp only [List.length_append, List.length_cons, List.length_nil]); unfold maxLen; omega
            case a6 => (try simp only [List.length_append, List.length_cons, List.length_nil]); omega
            case a7 => first | exact BA.out.size | exact Nat.le_succ_of_le (B4).out.size
            intro v5 w5 own5 g5 hn5
            have O5 := Lib.hid (lawSet_push own5 (by first | (simp; done) | (simp; omega)))
            have B5 := Lib.hid (BA.out.grown g5 BA.out.size (fun j hj => own_ge OA.out hj (Nat.le_refl _)))
            clear own5 g5 hn5 OA SA BA
            go_wp2_with (fail)
            go_roundg (l.length - (j + 1))
            case measure => omega
            case rel => exact ⟨j + 1, false, OUT ++ [X], by omega, by go_num, rfl, by rw [HNX.out, HLB.out, if_neg HEQ.out]; simp, O5.out, B5.out⟩
      · have HLB := Lib.hid (show True from trivial)
        have hbx := HR.out.below B2.out hlt1
        have c0 : wr.cell? ⟨w.heap.size, 0, none⟩ = some (.string k) := hbx.cell 0
        have c1 : wr.cell? ⟨w.heap.size, 1, none⟩ = some (.bool gone) := hbx.cell 1
        have c2 : wr.cell? ⟨w.heap.size, 2, none⟩ = some (.int .i64 kind) := hbx.cell 2
        have c3 : wr.cell? ⟨w.heap.size, 3, none⟩ = some (.int .i64 n) := hbx.cell 3
        have c4 : wr.cell? ⟨w.heap.size, 4, none⟩ = some (.string s) := hbx.cell 4
        clear hbx
        have x0 : wr.cell? ⟨b, off + j * 4, none⟩ = some (.string X.k) := ((B2.out).cell (p := ⟨b, off + j * 4, none⟩) hb).trans X0.out
        have x1 : wr.cell? ⟨b, off + j * 4 + 1, none⟩ = some (.int .i64 X.v.kind) := ((B2.out).cell (p := ⟨b, off + j * 4 + 1, none⟩) hb).trans X1.out
        have x2 : wr.cell? ⟨b, off + j * 4 + 2, none⟩ = some (.int .i64 X.v.n) := ((B2.out).cell (p := ⟨b, off + j * 4 + 2, none⟩) hb).trans X2.out
        have x3 : wr.cell? ⟨b, off + j * 4 + 3, none⟩ = some (.string X.v.s) := ((B2.out).cell (p := ⟨b, off + j * 4 + 3, none⟩) hb).trans X3.out
        go_upto_region 6 with (fail)
        go_quiet (fail)
        clear c0 c1 c2 c3 c4 x0 x1 x2 x3
        have fq : Fr [] wr (wr.drewN nq) := (Fr.refl _ _).drewN nq
        have O3 := Lib.hid (ownsRow_fr O2.out fq (by simp))
        have B3 := Lib.hid ((B2.out).trans (fq.nil.mono (B2.out).size))
        clear fq
        generalize wr.drewN nq = w3 at *
        by_cases heq : X.k = k
        · have HEQ := Lib.hid heq
          have hbx := HR.out.below B3.out hlt1
          have c0 : w3.cell? ⟨w.heap.size, 0, none⟩ = some (.string k) := hbx.cell 0
          have c1 : w3.cell? ⟨w.heap.size, 1, none⟩ = some (.bool gone) := hbx.cell 1
          have c2 : w3.cell? ⟨w.heap.size, 2, none⟩ = some (.int .i64 kind) := hbx.cell 2
          have c3 : w3.cell? ⟨w.heap.size, 3, none⟩ = some (.int .i64 n) := hbx.cell 3
          have c4 : w3.cell? ⟨w.heap.size, 4, none⟩ = some (.string s) := hbx.cell 4
          clear hbx
          have x0 : w3.cell? ⟨b, off + j * 4, none⟩ = some (.string X.k) := ((B3.out).cell (p := ⟨b, off + j * 4, none⟩) hb).trans X0.out
          have x1 : w3.cell? ⟨b, off + j * 4 + 1, none⟩ = some (.int .i64 X.v.kind) := ((B3.out).cell (p := ⟨b, off + j * 4 + 1, none⟩) hb).trans X1.out
          have x2 : w3.cell? ⟨b, off + j * 4 + 2, none⟩ = some (.int .i64 X.v.n) := ((B3.out).cell (p := ⟨b, off + j * 4 + 2, none⟩) hb).trans X2.out
          have x3 : w3.cell? ⟨b, off + j * 4 + 3, none⟩ = some (.string X.v.s) := ((B3.out).cell (p := ⟨b, off + j * 4 + 3, none⟩) hb).trans X3.out
          have hb2 : (X.k.toList == k.toList) = true := by rw [heq]; simp
          clear heq
          go_upto_region 9 with (fail)
          go_quiet (fail)
          clear hb2 c0 c1 c2 c3 c4 x0 x1 x2 x3
          have fq : Fr [] w3 (w3.drewN nq) := (Fr.refl _ _).drewN nq
          have O4 := Lib.hid (ownsRow_fr O3.out fq (by simp))
          have B4 := Lib.hid ((B3.out).trans (fq.nil.mono (B3.out).size))
          clear fq
          generalize w3.drewN nq = w4 at *
          go_wp2_with (fail)
          go_roundg (l.length - (j + 1))
          case measure => omega
          case rel => exact ⟨j + 1, true, OUT, by omega, by go_num, rfl, by rw [HNX.out, if_pos HEQ.out]; simp, O4.out, B4.out⟩
        · have HEQ := Lib.hid heq
          have hbx := HR.out.below B3.out hlt1
          have c0 : w3.cell? ⟨w.heap.size, 0, none⟩ = some (.string k) := hbx.cell 0
          have c1 : w3.cell? ⟨w.heap.size, 1, none⟩ = some (.bool gone) := hbx.cell 1
          have c2 : w3.cell? ⟨w.heap.size, 2, none⟩ = some (.int .i64 kind) := hbx.cell 2
          have c3 : w3.cell? ⟨w.heap.size, 3, none⟩ = some (.int .i64 n) := hbx.cell 3
          have c4 : w3.cell? ⟨w.heap.size, 4, none⟩ = some (.string s) := hbx.cell 4
          clear hbx
          have x0 : w3.cell? ⟨b, off + j * 4, none⟩ = some (.string X.k) := ((B3.out).cell (p := ⟨b, off + j * 4, none⟩) hb).trans X0.out
          have x1 : w3.cell? ⟨b, off + j * 4 + 1, none⟩ = some (.int .i64 X.v.kind) := ((B3.out).cell (p := ⟨b, off + j * 4 + 1, none⟩) hb).trans X1.out
          have x2 : w3.cell? ⟨b, off + j * 4 + 2, none⟩ = some (.int .i64 X.v.n) := ((B3.out).cell (p := ⟨b, off + j * 4 + 2, none⟩) hb).trans X2.out
          have x3 : w3.cell? ⟨b, off + j * 4 + 3, none⟩ = some (.string X.v.s) := ((B3.out).cell (p := ⟨b, off + j * 4 + 3, none⟩) hb).trans X3.out
          have hb2 := bytes_ne heq
          clear heq
          go_upto_region 9 with (fail)
          go_quiet (fail)
          clear hb2 c0 c1 c2 c3 c4 x0 x1 x2 x3
          have fq : Fr [] w3 (w3.drewN nq) := (Fr.refl _ _).drewN nq
          have O4 := Lib.hid (ownsRow_fr O3.out fq (by simp))
          have B4 := Lib.hid ((B3.out).trans (fq.nil.mono (B3.out).size))
          clear fq
          generalize w3.drewN nq = w4 at *
          have x0 : w4.cell? ⟨b, off + j * 4, none⟩ = some (.string X.k) := ((B4.out).cell (p := ⟨b, off + j * 4, none⟩) hb).trans X0.out
          have x1 : w4.cell? ⟨b, off + j * 4 + 1, none⟩ = some (.int .i64 X.v.kind) := ((B4.out).cell (p := ⟨b, off + j * 4 + 1, none⟩) hb).trans X1.out
          have x2 : w4.cell? ⟨b, off + j * 4 + 2, none⟩ = some (.int .i64 X.v.n) := ((B4.out).cell (p := ⟨b, off + j * 4 + 2, none⟩) hb).trans X2.out
          have x3 : w4.cell? ⟨b, off + j * 4 + 3, none⟩ = some (.string X.v.s) := ((B4.out).cell (p := ⟨b, off + j * 4 + 3, none⟩) hb).trans X3.out
          have own_a := ownsRow_fr O4.out ((Fr.refl [] w4).alloc (.cells (prs [X]).toArray 48)) (by simp)
          have hbl_a : Bl (w4.alloc (.cells (prs [X]).toArray 48)) w4.heap.size 48 (prs [X]) := Bl.new _ _ _
          have sv_a := hbl_a.sv (B := (w4.alloc (.cells (prs [X]).toArray 48)).heap.size) 4 0 1 1 (by simp) (by rw [prs_len]; simp) (by omega) (by simp [maxLen])
          rw [List.drop_zero, List.take_of_length_le (by rw [prs_len]; simp)] at sv_a
          have OA := Lib.hid own_a
          have SA := Lib.hid sv_a
          have BA := Lib.hid ((B4.out).alloc (B4.out).size (.cells (prs [X]).toArray 48))
          clear own_a hbl_a sv_a
          go_wp2_with (at_builtin; refine wpList_appN (.tmp 44) (.tmp 49) 22 rfl rfl w1.heap.size 48 _ 4 48 und22 info48 rfl (by decide) _ (OUT).length (prs (OUT)) rfl OA.out _ 1 _ (prs [X]) rfl SA.out (prs_one _) ?a5 ?a6 ?a7 ?_)
          case a5 => (try simp only [List.length_append, List.length_cons, List.length_nil]); unfold maxLen; omega
          case a6 => (try simp only [List.length_append, List.length_cons, List.length_nil]); omega
          case a7 => first | exact BA.out.size | exact Nat.le_succ_of_le (B4).out.size
          intro v5 w5 own5 g5 hn5
          have O5 := Lib.hid (lawSet_push own5 (by first | (simp; done) | (simp; omega)))
          have B5 := Lib.hid (BA.out.grown g5 BA.out.size (fun j hj => own_ge OA.out hj (Nat.le_refl _)))
          clear own5 g5 hn5 OA SA BA
          go_wp2_with (fail)
          go_roundg (l.length - (j + 1))
          case measure => omega
          case rel => exact ⟨j + 1, true, OUT ++ [X], by omega, by go_num, rfl, by rw [HNX.out, if_neg HEQ.out]; simp, O5.out, B5.out⟩
    · obtain rfl : j = l.length := by omega
      have hfin := HFIN.out
      have hf := HF.out
      rw [List.take_length] at hf
      rw [hf] at hfin
      have HFI := Lib.hid hfin
      clear hfin hf
      cases D
      · have hbx := HR.out.below B2.out hlt1
        have c0 : wr.cell? ⟨w.heap.size, 0, none⟩ = some (.string k) := hbx.cell 0
        have c1 : wr.cell? ⟨w.heap.size, 1, none⟩ = some (.bool gone) := hbx.cell 1
        have c2 : wr.cell? ⟨w.heap.size, 2, none⟩ = some (.int .i64 kind) := hbx.cell 2
        have c3 : wr.cell? ⟨w.heap.size, 3, none⟩ = some (.int .i64 n) := hbx.cell 3
        have c4 : wr.cell? ⟨w.heap.size, 4, none⟩ = some (.string s) := hbx.cell 4
        clear hbx
        have own_a := ownsRow_fr O2.out ((Fr.refl [] wr).alloc (.cells (prs [⟨k, ⟨kind, n, s⟩⟩]).toArray 48)) (by simp)
        have hbl_a : Bl (wr.alloc (.cells (prs [⟨k, ⟨kind, n, s⟩⟩]).toArray 48)) wr.heap.size 48 (prs [⟨k, ⟨kind, n, s⟩⟩]) := Bl.new _ _ _
        have sv_a := hbl_a.sv (B := (wr.alloc (.cells (prs [⟨k, ⟨kind, n, s⟩⟩]).toArray 48)).heap.size) 4 0 1 1 (by simp) (by rw [prs_len]; simp) (by omega) (by simp [maxLen])
        rw [List.drop_zero, List.take_of_length_le (by rw [prs_len]; simp)] at sv_a
        have OA := Lib.hid own_a
        have SA := Lib.hid sv_a
        have BA := Lib.hid ((B2.out).alloc (B2.out).size (.cells (prs [⟨k, ⟨kind, n, s⟩⟩]).toArray 48))
        clear own_a hbl_a sv_a
        go_wp2_with (at_builtin; refine wpList_appN (.tmp 53) (.tmp 59) 22 rfl rfl w1.heap.size 48 _ 4 48 und22 info48 rfl (by decide) _ (OUT).length (prs (OUT)) rfl OA.out _ 1 _ (prs [⟨k, ⟨kind, n, s⟩⟩]) rfl SA.out (prs_one _) ?a5 ?a6 ?a7 ?_)
        case a5 => (try simp only [List.length_append, List.length_cons, List.length_nil]); unfold maxLen; omega
        case a6 => (try simp only [List.length_append, List.length_cons, List.length_nil]); omega
        case a7 => first | exact BA.out.size | exact Nat.le_succ_of_le (B2).out.size
        intro v4 w4 own4 g4 hn4
        have O4 := Lib.hid (lawSet_push own4 (by first | (simp; done) | (simp; omega)))
        have B4 := Lib.hid (BA.out.grown g4 BA.out.size (fun j hj => own_ge OA.out hj (Nat.le_refl _)))
        clear own4 g4 hn4 OA SA BA
        go_wp2_with (fail)
        go_ret
        refine ⟨⟨_, rfl, ?_⟩, HB.out.trans (B4.out.mono hz1)⟩
        rw [HFI.out]
        exact Sv.own O4.out
      · go_wp2_with (fail)
        go_ret
        refine ⟨⟨_, rfl, ?_⟩, HB.out.trans (B2.out.mono hz1)⟩
        rw [HFI.out]
        exact Sv.own O2.out
end Go.Proofs.Ytjokghnlmaaejaa
