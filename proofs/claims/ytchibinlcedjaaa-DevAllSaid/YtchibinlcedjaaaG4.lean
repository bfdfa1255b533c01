import Derived.Test.YtchibinlcedjaaaH8
import Derived.Test.YtchibinlcedjaaaG3
import Derived.Deep.CutBlock
namespace Go.Proofs.Ytchibinlcedjaaa
open Go.RowKit
theorem fin_start (w : World) (B ww : Nat) (hB : B ≤ w.heap.size) (hb : Bl w ww 30 [.slice none 0 0, .slice none 0 0, .slice none 0 0, .int .i64 0, .int .i64 (-1)]) : Fin_ w w B ww (.slice none 0 0) (.slice none 0 0) (.slice none 0 0) 0 :=
  ⟨Below.refl _ _, hB, hb, ⟨[], ⟨rfl, .inl ⟨rfl, rfl⟩⟩, fun i hi => by omega⟩, ⟨[], ⟨rfl, .inl ⟨rfl, rfl⟩⟩, fun i hi => by omega⟩, ⟨rfl, .inl ⟨rfl, rfl⟩⟩, fun g h => by cases h⟩
def world0 (n : Nat) : WM := ⟨List.replicate n z64, List.replicate n z64, List.replicate n false, 0, -1⟩
theorem rel_start (n : Nat) : Rel (fresh n) (world0 n) := by
  refine ⟨?_, .inr (.inl ⟨rfl, rfl, rfl⟩), fun s hs _ => ?_⟩
  · unfold world0 ofSecs fresh
    simp only [List.map_replicate]
    rfl
  · rw [(List.mem_replicate.1 hs).2]; rfl
theorem rowsV_at {w : World} {B : Nat} {v : Value} {k : Nat} (h : RowsV w B v k) (hk : 1 ≤ k) : ∃ b c, v = .slice (some ⟨b, 0, none⟩) k c ∧ B ≤ b ∧ RowsAt w b c (List.replicate k z64) := by
  obtain ⟨cells, h1, h2⟩ := h
  have h1' := h1
  obtain ⟨hl, ⟨_, h⟩ | ⟨g, cap, cur, rfl, hg, hh, hnc, hcm, hcs, htk⟩⟩ := h1'
  · omega
  · refine ⟨g, cap, rfl, hg, cells, ?_, fun i hi => ?_⟩
    · rw [List.length_replicate]
      exact ⟨hl, .inr ⟨g, cap, cur, rfl, Nat.zero_le _, hh, hnc, hcm, hcs, htk⟩⟩
    · rw [List.length_replicate] at hi
      obtain ⟨u, h3, h4⟩ := h2 i hi
      refine ⟨u, h3, ?_⟩
      rw [List.getElem_replicate]
      obtain ⟨k1, k2 | ⟨g2, cap2, cur2, k3, _, k4⟩⟩ := h4
      · omega
      · exact ⟨k1, .inr ⟨g2, cap2, cur2, k3, Nat.zero_le _, k4⟩⟩
theorem wat_start {w1 w : World} {B ww : Nat} {nv sv lv : Value} {k : Nat} (h : Fin_ w1 w B ww nv sv lv k) (hk : 1 ≤ k) (hk8 : k ≤ 8) : ∃ nb sb lb nc sc lc, WAt w ww nb sb lb nc sc lc (world0 k) ∧ B ≤ nb ∧ B ≤ sb ∧ B ≤ lb := by
  obtain ⟨nb, nc, rfl, hn, hN⟩ := rowsV_at h.rn hk
  obtain ⟨sb, sc, rfl, hs, hS⟩ := rowsV_at h.rs hk
  obtain ⟨hl, ⟨_, h0⟩ | ⟨lb, lc, cur, rfl, hlo, hh, hnc, hcm, hcs, htk⟩⟩ := h.rl
  · omega
  · refine ⟨nb, sb, lb, nc, sc, lc, ⟨?_, hN, hS, ?_, fun e => ?_, ?_⟩, hn, hs, hlo⟩
    · have := h.head
      unfold world0
      simp only [List.length_replicate]
      exact this
    · unfold world0
      simp only [List.length_replicate]
      exact ⟨hl, .inr ⟨lb, lc, cur, rfl, Nat.zero_le _, hh, hnc, hcm, hcs, htk⟩⟩
    · exact h.ne nb rfl (by rw [e]; rfl)
    · refine ⟨by simp [world0], by simp [world0], fun x hx => ?_, fun x hx => ?_, by simp [world0]; omega, by simp [world0]; omega⟩
      · rw [(List.mem_replicate.1 hx).2]; rfl
      · rw [(List.mem_replicate.1 hx).2]; rfl
set_option maxRecDepth 1000000 in
set_option maxHeartbeats 8000000 in
theorem devAll_walk (w : World) {n : Int} {vo : Value} {ops : List OpR} (hn : (Lit.int .i64 n).wf = true) (ho : So w w.heap.size vo ops) :
    Calls Try.prog 3 #[.int .i64 n, vo] w fun e w' => e = .returned (.bool true) ∧ Below w.heap.size w w' := by
  have hn' := bounds_i64 hn
  have HOP := Lib.hid ho
  obtain ⟨ao, co, rfl, hol, hoi⟩ := ho
  clear hoi hn
  obtain ⟨N, hN⟩ : ∃ N : Nat, max 1 (min n 8) = (N : Int) := ⟨(max 1 (min n 8)).toNat, by omega⟩
  have hN1 : 1 ≤ N := by omega
  have hN8 : N ≤ 8 := by omega
  have hif : (if (1 : Int) < (if 8 < n then 8 else n) then (if 8 < n then 8 else n) else 1) = (N : Int) := by
    rcases (by omega : 8 < n ∨ ¬ 8 < n ∧ 1 < n ∨ ¬ 8 < n ∧ ¬ 1 < n) with h | ⟨h, h'⟩ | ⟨h, h'⟩
    · rw [if_pos h, if_pos (by decide)]; omega
    · rw [if_neg h, if_pos h']; omega
    · rw [if_neg h, if_neg h']; omega
  have HIF := Lib.hid hif
  clear hif hN
  go_enter Try.func3, Try.ntmps3
  go_wp2_with (fail)
  refine (begun_c w).mono ?_
  rintro e w1 ⟨rfl, bel⟩
  have B1 := Lib.hid bel
  have hz1 := bel.size
  clear bel
  go_upto_region 5 with (fail)
  rw [HIF.out]
  generalize (if 8 < n then (8 : Int) else n) = q24 at *
  have HNW := new_m w1 (N : Int)
  rw [show (min (max (N : Int) 1) 2048).toNat = N by omega] at HNW
  have HNW := Lib.hid HNW
  have hN1' : (1 : Int) ≤ (N : Int) := by omega
  have hN8' : (N : Int) ≤ 8 := by omega
  go_wp2_with (fail)
  refine HNW.out.mono ?_
  rintro e w2 ⟨⟨p, b, rfl, hp, hb, hD⟩, bel⟩
  have B2 := Lib.hid (B1.out.trans (bel.mono hz1))
  have hz2 := bel.size
  have HD2 := Lib.hid hD
  have hlt := hD.lt
  clear hD bel HNW
  go_upto_region 7 with (fail)
  have hbx := Bl.new w2 30 [.slice none 0 0, .slice none 0 0, .slice none 0 0, .int .i64 0, .int .i64 (-1)]
  have F3 := Lib.hid ((Fr.refl [] w2).alloc (.cells #[.slice none 0 0, .slice none 0 0, .slice none 0 0, .int .i64 0, .int .i64 (-1)] 30))
  generalize w2.alloc (.cells #[.slice none 0 0, .slice none 0 0, .slice none 0 0, .int .i64 0, .int .i64 (-1)] 30) = w3 at *
  have HF3 := Lib.hid (fin_start w3 w2.heap.size w2.heap.size F3.out.size hbx)
  have HD3 := Lib.hid (HD2.out.fr F3.out (by simp) (by simp))
  obtain ⟨ww, hww⟩ : ∃ ww, ww = w2.heap.size := ⟨_, rfl⟩
  rw [← hww] at HF3 ⊢
  have hz3 := F3.out.size
  have HWW := Lib.hid hww
  clear hww
  clear hbx
  go_wp2_with (fail)
  go_loopg [8] N (fun q i wr => ∃ (k : Nat) (nv sv lv : Value), k + q = N ∧ i = .int .i64 (k : Int) ∧ Fin_ w3 wr ww ww nv sv lv k)
  case atStart => exact ⟨0, _, _, _, by omega, rfl, HF3.out⟩
  case round =>
    obtain ⟨k, nv, sv, lv, hk, rfl, hfin⟩ := hrel
    have HFN := Lib.hid hfin
    clear hfin
    by_cases hlt2 : k < N
    · have hi2 : (k : Int) < (N : Int) := by omega
      go_upto_region 10 with (fail)
      apply region10 wr ww ww k nv sv lv (by omega) (Nat.le_refl _) ⟨Below.refl _ _, HFN.out.lo, HFN.out.head, HFN.out.rn, HFN.out.rs, HFN.out.rl, HFN.out.ne⟩
      · intro c a b w h
        obtain ⟨_, h, _⟩ := (h : a.defers = [] ∧ Ending.panicked c = .returned (.bool true) ∧ _)
        cases h
      intro w' nv' sv' lv'
      intros
      rename_i hf'
      have HF' : Hid (Fin_ w3 w' ww ww nv' sv' lv' (k + 1)) := ⟨HFN.out.base.trans hf'.base, hf'.lo, hf'.head, hf'.rn, hf'.rs, hf'.rl, hf'.ne⟩
      clear hf'
      go_wp2_with (fail)
      go_roundg (N - (k + 1))
      case measure => omega
      case rel => exact ⟨k + 1, _, _, _, by omega, by go_num, HF'.out⟩
    · have e : k = N := by omega
      subst e
      obtain ⟨nb, sb, lb, nc, sc, lc, hwat, hb1, hb2, hb3⟩ := wat_start HFN.out hN1 hN8
      have hwx := HWW.out
      have hdev := HD3.out.below HFN.out.base (by omega) (by omega)
      have hz4 := HFN.out.base.size
      have hds : DS w wr p b ww nb sb lb nc sc lc (fresh k) (world0 k) k 0 := ⟨hdev, hwat, rel_start k, by simp [fresh], Nat.le_refl _, by omega, (B2.out.trans (F3.out.below (by omega) (by simp))).trans (HFN.out.base.mono (by omega))⟩
      have HDS := Lib.hid hds
      clear hwx hdev hwat hds HFN HF3 HD3 HD2
      go_wp2_with (fail)
      go_loopg [6, 9] ops.length (fun q s6 i wr => ∃ (j p b : Nat) (D : DM) (m : WM), j + q = ops.length ∧ s6 = .pointer (some ⟨p, 0, none⟩) ∧ i = .int .i64 (j : Int) ∧ DS w wr p b ww nb sb lb nc sc lc D m k j ∧ j ≤ 50)
      case atStart => exact ⟨0, p, b, _, _, by omega, rfl, rfl, HDS.out, by omega⟩
      case round =>
        obtain ⟨j, p, b, D, m, hj, rfl, rfl, hds, hj50⟩ := hrel
        have HDS := Lib.hid hds
        clear hds
        by_cases hlt3 : j < ops.length ∧ j < 50
        · obtain ⟨hj1, hj2⟩ := hlt3
          have i4 : (j : Int) < (ops.length : Int) := by omega
          have i5 : (j : Int) < 50 := by omega
          obtain ⟨_, _, e0, _, hoi⟩ := HOP.out
          injection e0 with e1 e2 e3
          subst e1 e3
          obtain ⟨ob, oo, vb, vk, rfl, hob, o0, o1, o2, o3, r0, r1, r2, r3⟩ := hoi j hj1
          rw [← HDS.out.bel.cell (p := ⟨ob, oo + j * 4, none⟩) hob] at o0
          rw [← HDS.out.bel.cell (p := ⟨ob, oo + j * 4 + 1, none⟩) hob] at o1
          rw [← HDS.out.bel.cell (p := ⟨ob, oo + j * 4 + 2, none⟩) hob] at o2
          rw [← HDS.out.bel.cell (p := ⟨ob, oo + j * 4 + 3, none⟩) hob] at o3
          have hb4 := Sv.below r2 (Nat.le_refl _) HDS.out.bel (Nat.le_refl _)
          have hk4 := Sv.below r3 (Nat.le_refl _) HDS.out.bel (Nat.le_refl _)
          have HCC := Lib.hid (And.intro o0 (And.intro o1 (And.intro o2 o3)))
          have HB4 := Lib.hid hb4
          have HK4 := Lib.hid hk4
          have HI := Lib.hid r1
          clear o0 o1 o2 o3 hb4 hk4 r0 r1 r2 r3 hoi
          go_upto_block 3 with (fail)
          apply part3 w _ p b ww nb sb lb nc sc lc D m k j (by omega) HDS.out _ _ HI.out ob oo ops.length _ j hj1 vb vk HCC.out.1 HCC.out.2.1 HCC.out.2.2.1 HCC.out.2.2.2 _ HB4.out _ HK4.out
          intro p2 b2 D2 m2 w'
          intros
          rename_i hs7
          have HS7 := Lib.hid hs7
          clear hs7
          go_wp2_with (fail)
          go_roundg (ops.length - (j + 1))
          case measure => omega
          case rel => exact ⟨j + 1, p2, b2, D2, m2, by omega, rfl, by go_num, HS7.out, by omega⟩
        · have h1 : (ops.length : Int) ≤ (j : Int) ∨ (j : Int) < (ops.length : Int) ∧ 50 ≤ (j : Int) := by omega
          clear hlt3
          rcases h1 with h1 | ⟨h1, h2⟩
          · go_wp2_with (fail)
            go_ret
            exact ⟨rfl, HDS.out.bel⟩
          · go_wp2_with (fail)
            go_ret
            exact ⟨rfl, HDS.out.bel⟩
end Go.Proofs.Ytchibinlcedjaaa
