import Derived.Test.YtapanemkpcnkaaaC3
import Derived.Deep.DeepCutAuto
import Derived.Deep.LoopGhost
import Derived.Deep.RegionWith
namespace Go.Proofs.Ytapanemkpcnkaaa
open Go.RowKit
theorem quiet_same {P : Program} {f : FuncId} {args : Array Value} {w : World} {n : Nat} {v : Value}
    (h : Calls P f args (w.drewN n) fun e w' => e = .returned v ∧ w.drewN n = w') : Calls P f args (w.drewN n) fun e w'' => e = .returned v ∧ ∃ m, w'' = w.drewN m :=
  h.mono fun _ _ ⟨he, hm⟩ => ⟨he, n, hm.symm⟩
theorem Sl.drewN {w : World} {B : Nat} {v : Value} {l : List UInt8} (h : Sl w B v l) (n : Nat) : Sl (w.drewN n) B v l := h.keep (Nat.le_refl _) fun _ _ _ => rfl
theorem madeZero (n : Nat) : madeCells (Value.int .u8 0).cells (n * 1) = (bv (List.replicate n 0)).toArray := by
  apply Array.ext'
  apply List.ext_getElem
  · simp [madeCells, bv]
  · intro i h1 h2
    simp [madeCells, bv, Value.cells, Nat.mod_one]
theorem run_make_bytes (n : Nat) (hn : n ≤ 1000) (W : World) : (Instr.makeSlice 24 (.int .i64 (n : Int)) (.int .i64 (n : Int))).run Try.prog W = .ok (.slice (some ⟨W.heap.size, 0, none⟩) n n) (W.alloc (.cells (bv (List.replicate n 0)).toArray 5)) := by
  obtain ⟨i0, hi, hz0, hz1, hz2⟩ := info_parts info5
  have h := run_make (P := Try.prog) W 24 5 i0 (.int .u8 0) Try.underlying24 hi hz0 .i64 .i64 n n (by omega) (by omega) (by rw [hz2]; omega) (by omega)
  rw [hz1, Int.toNat_natCast, madeZero] at h
  exact h
theorem Sl.form {w : World} {B : Nat} {v : Value} {l : List UInt8} (h : Sl w B v l) : ∃ a cap, v = .slice a l.length cap ∧ l.length ≤ 9223372036854775807 := by
  obtain ⟨h1, a, cap, e, _⟩ := h
  exact ⟨a, cap, e, h1⟩
theorem Sl.at_ {w : World} {B : Nat} {a : Option Addr} {n cap : Nat} {l : List UInt8} (h : Sl w B (.slice a n cap) l) (k : Nat) (hk : k < l.length) : ∃ b off, a = some ⟨b, off, none⟩ ∧ b < B ∧ w.cell? ⟨b, off + k, none⟩ = some (.int .u8 l[k].toNat) := by
  obtain ⟨_, a', cap', e, _, _, _, h2⟩ := h
  injection e with e1 e2 e3
  subst e1
  rcases h2 with rfl | ⟨b, off, e, hb, hc⟩
  · simp at hk
  · exact ⟨b, off, e, hb, hc k hk⟩
/-- Block `b` is just the bytes `l`. -/
def Bk (w : World) (b : Nat) (l : List UInt8) : Prop := w.heap[b]? = some (.cells (bv l).toArray 5 (0, 0))
theorem Bk.lt {w : World} {b : Nat} {l : List UInt8} (h : Bk w b l) : b < w.heap.size := by
  rcases Nat.lt_or_ge b w.heap.size with hlt | hge
  · exact hlt
  · unfold Bk at h; rw [Array.getElem?_eq_none hge] at h; cases h
theorem Bk.cell {w : World} {b : Nat} {l : List UInt8} (h : Bk w b l) (i : Nat) (hi : i < l.length) : w.cell? ⟨b, i, none⟩ = some (.int .u8 l[i].toNat) := by
  unfold Bk at h
  simp [World.cell?, h, bv, hi]
theorem Bk.free {w : World} {b : Nat} {l : List UInt8} (h : Bk w b l) (i : Nat) : w.frozen? ⟨b, i, none⟩ = false := by
  unfold Bk at h
  simp [World.frozen?, h]
theorem Bk.set {w : World} {b : Nat} {l : List UInt8} (h : Bk w b l) (i : Nat) (c : UInt8) : Bk (w.setCell ⟨b, i, none⟩ (.int .u8 c.toNat)) b (l.set i c) := by
  unfold Bk at *
  rw [heap_setCell_same w b i _ _ _ h]
  simp [bv, List.map_set]
theorem Bk.new (w : World) (l : List UInt8) : Bk (w.alloc (.cells (bv l).toArray 5)) w.heap.size l := heap_alloc_new w _
theorem Bk.sl {w : World} {b : Nat} {l : List UInt8} (h : Bk w b l) (hl : l.length ≤ 1000000) : Sl w w.heap.size (.slice (some ⟨b, 0, none⟩) l.length l.length) l :=
  ⟨by omega, _, _, rfl, by omega, by unfold maxLen; omega, by simp, .inr ⟨b, 0, rfl, h.lt, fun i hi => by rw [Nat.zero_add]; exact h.cell i hi⟩⟩

def x3 (a b c : List UInt8) : List UInt8 := List.zipWith (· ^^^ ·) (List.zipWith (· ^^^ ·) a b) c
theorem x3_len (n : Nat) (a b c : List UInt8) (ha : n ≤ a.length) (hb : n ≤ b.length) (hc : n ≤ c.length) : (x3 (a.take n) (b.take n) (c.take n)).length = n := by
  simp [x3]; omega
theorem x3_get (n : Nat) (a b c : List UInt8) (ha : n ≤ a.length) (hb : n ≤ b.length) (hc : n ≤ c.length) (k : Nat) (hk : k < n) :
    (x3 (a.take n) (b.take n) (c.take n))[k]'(by rw [x3_len n a b c ha hb hc]; exact hk) = a[k] ^^^ b[k] ^^^ c[k] := by
  simp [x3]
theorem x3_ex (n : Nat) (a b c : List UInt8) (ha : n ≤ a.length) (hb : n ≤ b.length) (hc : n ≤ c.length) :
    ∃ d : List UInt8, d.length = n ∧ (∀ (k : Nat) (hk : k < n) (hd : k < d.length), d[k] = a[k] ^^^ b[k] ^^^ c[k]) ∧ crc 0#32 d = crc 0#32 (a.take n) ^^^ crc 0#32 (b.take n) ^^^ crc 0#32 (c.take n) :=
  ⟨_, x3_len n a b c ha hb hc, fun k hk _ => x3_get n a b c ha hb hc k hk, crc_three n _ _ _ (by simp; omega) (by simp; omega) (by simp; omega)⟩
theorem fill_step (d : List UInt8) (n k : Nat) (hd : d.length = n) (hk : k < n) : (d.take k ++ List.replicate (n - k) 0).set k d[k] = d.take (k + 1) ++ List.replicate (n - (k + 1)) 0 := by
  apply List.ext_getElem
  · simp; omega
  · intro i h1 h2
    rw [List.getElem_set]
    by_cases e : k = i
    · subst e
      have hm : k < min (k + 1) d.length := by omega
      simp [hm]
    · rw [if_neg e]
      simp only [List.getElem_append, List.length_take]
      split <;> split <;> simp <;> omega

set_option maxHeartbeats 400000 in
theorem crcThree_walk (w : World) {va vb vc : Value} {la lb lc : List UInt8} (ha : Sl w w.heap.size va la) (hb : Sl w w.heap.size vb lb) (hc : Sl w w.heap.size vc lc) :
    Calls Try.prog 6 #[va, vb, vc] w fun e w' => e = .returned (.bool true) ∧ Below w.heap.size w w' := by
  go_enter Try.func6, Try.ntmps6
  go_wp2_with (fail)
  refine (begun_c w).mono ?_
  rintro e w1 ⟨rfl, hb1⟩
  have ha1 := ha.below (B' := w.heap.size) (by omega) hb1 (by omega)
  have hbb1 := hb.below (B' := w.heap.size) (by omega) hb1 (by omega)
  have hc1 := hc.below (B' := w.heap.size) (by omega) hb1 (by omega)
  clear ha hb hc
  have HA := Lib.hid ha1
  have HB := Lib.hid hbb1
  have HC := Lib.hid hc1
  have HW := Lib.hid hb1
  obtain ⟨aa, ca, rfl, hal⟩ := ha1.form
  obtain ⟨ab, cb, rfl, hbl⟩ := hbb1.form
  obtain ⟨ac, cc, rfl, hcl⟩ := hc1.form
  clear ha1 hbb1 hc1
  clear hb1
  go_upto_region 4 with (fail)
  go_cut [8] (fun s8 wx => wx = w1 ∧ ∃ n : Nat, s8 = .int .i64 n ∧ n ≤ la.length ∧ n ≤ lb.length ∧ n ≤ lc.length ∧ n ≤ 100)
  case first =>
    go_wp2_with fail
    all_goals
      go_meet
      first
        | exact ⟨rfl, 100, rfl, by omega, by omega, by omega, by omega⟩
        | exact ⟨rfl, la.length, rfl, by omega, by omega, by omega, by omega⟩
        | exact ⟨rfl, lb.length, rfl, by omega, by omega, by omega, by omega⟩
        | exact ⟨rfl, lc.length, rfl, by omega, by omega, by omega, by omega⟩
  case rest =>
    obtain ⟨rfl, n, rfl, hna, hnb, hnc, hn⟩ := hcut
    have hmk := run_make_bytes n (by omega)
    have hsz : w.heap.size ≤ wc.heap.size := HW.out.size
    obtain ⟨d, hd1, hd2, hd3⟩ := x3_ex n la lb lc hna hnb hnc
    have hdl := Lib.hid hd1
    have hdg := Lib.hid hd2
    have hdc := Lib.hid hd3
    clear hd1 hd2 hd3
    go_wp2_with (fail)
    go_loopg [10] n (fun m i wr => ∃ k, k + m = n ∧ i = .int .i64 k ∧ Bk wr wc.heap.size (d.take k ++ List.replicate (n - k) 0) ∧ Below wc.heap.size wc wr)
    case atStart => exact ⟨0, by omega, rfl, by simpa using Bk.new _ _, (Below.refl _ _).alloc (Nat.le_refl _) _⟩
    case round =>
      obtain ⟨k, hk, rfl, hbk, hbel⟩ := hrel
      by_cases hlt : k < n
      · obtain ⟨b1, o1, rfl, hb1, c1⟩ := HA.out.at_ k (by omega)
        obtain ⟨b2, o2, rfl, hb2, c2⟩ := HB.out.at_ k (by omega)
        obtain ⟨b3, o3, rfl, hb3, c3⟩ := HC.out.at_ k (by omega)
        rw [← hbel.cell (show (⟨b1, o1 + k, none⟩ : Addr).block < wc.heap.size by simp; omega)] at c1
        rw [← hbel.cell (show (⟨b2, o2 + k, none⟩ : Addr).block < wc.heap.size by simp; omega)] at c2
        rw [← hbel.cell (show (⟨b3, o3 + k, none⟩ : Addr).block < wc.heap.size by simp; omega)] at c3
        have dl := hdl.out
        have hdk := hdg.out k hlt (by omega)
        obtain ⟨y, c4⟩ : ∃ y, wr.cell? ⟨wc.heap.size, k, none⟩ = some y := ⟨_, hbk.cell k (by simp; omega)⟩
        have f4 := hbk.free k
        have hset := hbk.set k d[k]
        rw [fill_step d n k dl hlt, hdk] at hset
        generalize la[k] = x1 at *
        generalize lb[k] = x2 at *
        generalize lc[k] = x3 at *
        have e1 := xor8 x1 x2
        have e2 := xor8 (x1 ^^^ x2) x3
        generalize hz : x1 ^^^ x2 = z at *
        generalize hz2 : z ^^^ x3 = z2 at *
        have i1 : (k : Int) < (la.length : Int) := by omega
        have i2 : (k : Int) < (lb.length : Int) := by omega
        have i3 : (k : Int) < (lc.length : Int) := by omega
        have i4 : (k : Int) < (n : Int) := by omega
        have HS := Lib.hid hset
        have HBEL := Lib.hid hbel
        clear hset hbk hbel hdk hz hz2 dl
        go_wp2_with (fail)
        go_still_tail 17, (by kernel_rfl)
        change wpList _ _ _ _ _ wr.drew
        go_wp2_with (fail)
        go_roundg (n - (k + 1))
        case measure => omega
        case rel => exact ⟨k + 1, by omega, by go_num, HS.out, (HBEL.out.setCell (p := ⟨wc.heap.size, k, none⟩) (Nat.le_refl _) _).drew⟩
      · have e : k = n := by omega
        subst e
        have hd1 := hdl.out
        have hbk2 : Bk wr wc.heap.size d := by
          have := hbk
          rw [Nat.sub_self, List.replicate_zero, List.append_nil, List.take_of_length_le (by omega)] at this
          exact this
        have s0 : Sl wr wr.heap.size (.slice (some ⟨wc.heap.size, 0, none⟩) k k) d := by
          have := hbk2.sl (by omega)
          rw [hd1] at this
          exact this
        have s1 := HA.out.below (Nat.le_refl _) hbel hsz
        have s2 := HB.out.below (Nat.le_refl _) hbel hsz
        have s3 := HC.out.below (Nat.le_refl _) hbel hsz
        obtain ⟨v1, hv1, t1⟩ := s1.cut_to k (by omega) (by omega)
        obtain ⟨v2, hv2, t2⟩ := s2.cut_to k (by omega) (by omega)
        obtain ⟨v3, hv3, t3⟩ := s3.cut_to k (by omega) (by omega)
        have S0 := Lib.hid s0
        have HBEL := Lib.hid hbel
        rw [Int.toNat_natCast] at t1 t2 t3
        have T1 := Lib.hid t1
        have T2 := Lib.hid t2
        have T3 := Lib.hid t3
        have he := cxor (crc 0#32 (la.take k)) (crc 0#32 (lb.take k))
        have he2 := cxor (crc 0#32 (la.take k) ^^^ crc 0#32 (lb.take k)) (crc 0#32 (lc.take k))
        have HE2 := Lib.hid he2
        clear he2
        clear hbk hbk2 s0 s1 s2 s3 t1 t2 t3 hbel hd1
        go_wp2_with (fail)
        go_quiet ((first | (go_at_call_of 10 v1; exact quiet_same (sum_c v1 _ _ _ (T1.out.drewN _))) | (go_at_call_of 10 v2; exact quiet_same (sum_c v2 _ _ _ (T2.out.drewN _))) | (go_at_call_of 10 v3; exact quiet_same (sum_c v3 _ _ _ (T3.out.drewN _))) | (go_at_call 10; exact quiet_same (sum_c _ _ _ _ (S0.out.drewN _)))))
        go_wp2_with (fail)
        go_ret
        refine ⟨congrArg (fun b => Ending.returned (.bool b)) ?_, below_drewN (HW.out.trans (HBEL.out.mono hsz)) _⟩
        have h3 := HE2.out
        rw [BitVec.toNat_xor] at h3
        rw [h3, hdc.out]
        exact beq_self_eq_true _
end Go.Proofs.Ytapanemkpcnkaaa
