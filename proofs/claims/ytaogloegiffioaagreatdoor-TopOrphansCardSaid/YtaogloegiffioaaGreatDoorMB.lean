import Derived.Test.YtaogloegiffioaaGreatDoorMA
import Derived.Laws.StructEq
set_option linter.all false
namespace Go.Proofs.YtaogloegiffioaaGreatDoor
theorem H1.get_set (t : H1) (d e : D16) (v : Blk) : (t.set d v).get e = if e = d then v else t.get e := by
  cases t; cases d <;> cases e <;> rfl
theorem H2.get_set (t : H2) (d e : D16) (v : H1) : (t.set d v).get e = if e = d then v else t.get e := by
  cases t; cases d <;> cases e <;> rfl
theorem H3.get_set (t : H3) (d e : D16) (v : H2) : (t.set d v).get e = if e = d then v else t.get e := by
  cases t; cases d <;> cases e <;> rfl
theorem H4.get_set (t : H4) (d e : D16) (v : H3) : (t.set d v).get e = if e = d then v else t.get e := by
  cases t; cases d <;> cases e <;> rfl
theorem H5.get_set (t : H5) (d e : D16) (v : H4) : (t.set d v).get e = if e = d then v else t.get e := by
  cases t; cases d <;> cases e <;> rfl
theorem H5.at_put (t : H5) (b b' : Bid) (v : Blk) : (t.put b v).at b' = if b' = b then v else t.at b' := by
  obtain ⟨z, a, b, c, d⟩ := b
  obtain ⟨z', a', b', c', d'⟩ := b'
  show (((((t.set z _).get z').get a').get b').get c').get d' = _
  rw [H5.get_set]
  by_cases hz : z' = z
  · subst hz
    rw [if_pos rfl]
    show (((((t.get z').set a _).get a').get b').get c').get d' = _
    rw [H4.get_set]
    by_cases ha : a' = a
    · subst ha
      rw [if_pos rfl, H3.get_set]
      by_cases hb : b' = b
      · subst hb
        rw [if_pos rfl, H2.get_set]
        by_cases hc : c' = c
        · subst hc
          rw [if_pos rfl, H1.get_set]
          by_cases hd : d' = d
          · subst hd; rw [if_pos rfl, if_pos rfl]
          · rw [if_neg hd, if_neg (by simp [hd])]; rfl
        · rw [if_neg hc, if_neg (by simp [hc])]; rfl
      · rw [if_neg hb, if_neg (by simp [hb])]; rfl
    · rw [if_neg ha, if_neg (by simp [ha])]; rfl
  · rw [if_neg hz, if_neg (by simp [hz])]; rfl
def D16.num (d : D16) : Nat := match d with
  | .d0 => 0 | .d1 => 1 | .d2 => 2 | .d3 => 3 | .d4 => 4 | .d5 => 5 | .d6 => 6 | .d7 => 7 | .d8 => 8 | .d9 => 9 | .da => 10 | .db => 11 | .dc => 12 | .dd => 13 | .de => 14 | .df => 15
theorem D16.num_lt (d : D16) : d.num < 16 := by cases d <;> decide
theorem D16.num_inj {d e : D16} (h : d.num = e.num) : d = e := by cases d <;> cases e <;> first | rfl | cases h
def Bid.num (b : Bid) : Nat := (((b.z.num * 16 + b.a.num) * 16 + b.b.num) * 16 + b.c.num) * 16 + b.d.num
theorem Bid.num_inj {b c : Bid} (h : b.num = c.num) : b = c := by
  obtain ⟨z, a, b, x, d⟩ := b
  obtain ⟨z', a', b', x', d'⟩ := c
  simp only [Bid.num] at h
  have := z.num_lt; have := z'.num_lt
  have := a.num_lt; have := b.num_lt; have := x.num_lt; have := d.num_lt
  have := a'.num_lt; have := b'.num_lt; have := x'.num_lt; have := d'.num_lt
  have h0 : z.num = z'.num := by omega
  have h1 : a.num = a'.num := by omega
  have h2 : b.num = b'.num := by omega
  have h3 : x.num = x'.num := by omega
  have h4 : d.num = d'.num := by omega
  rw [D16.num_inj h0, D16.num_inj h1, D16.num_inj h2, D16.num_inj h3, D16.num_inj h4]
theorem D16.inc_eq {α : Type} (d : D16) (ov : α) (k : D16 → α) : d.inc ov k = if h : d.num = 15 then ov else k (match d with
  | .d0 => .d1 | .d1 => .d2 | .d2 => .d3 | .d3 => .d4 | .d4 => .d5 | .d5 => .d6 | .d6 => .d7 | .d7 => .d8 | .d8 => .d9 | .d9 => .da | .da => .db | .db => .dc | .dc => .dd | .dd => .de | .de => .df | .df => .df) := by cases d <;> rfl
def D16.up (d : D16) : D16 := match d with
  | .d0 => .d1 | .d1 => .d2 | .d2 => .d3 | .d3 => .d4 | .d4 => .d5 | .d5 => .d6 | .d6 => .d7 | .d7 => .d8 | .d8 => .d9 | .d9 => .da | .da => .db | .db => .dc | .dc => .dd | .dd => .de | .de => .df | .df => .df
theorem D16.up_num (d : D16) (h : d.num ≠ 15) : d.up.num = d.num + 1 := by cases d <;> first | rfl | exact absurd rfl h
theorem D16.inc_cases {α : Type} (d : D16) (ov : α) (k : D16 → α) : (d.num = 15 ∧ d.inc ov k = ov) ∨ (d.num ≠ 15 ∧ d.inc ov k = k d.up) := by cases d <;> first | exact .inl ⟨rfl, rfl⟩ | exact .inr ⟨by decide, rfl⟩
theorem notLast_num {b : Bid} (h : notLast b = true) : b.z.num ≠ 15 := by
  obtain ⟨z, a, b, c, d⟩ := b
  cases z <;> first | (cases h; done) | simp [D16.num]
theorem Bid.next_num {b : Bid} (h : notLast b = true) : b.next.num = b.num + 1 := by
  have hz := notLast_num h
  obtain ⟨z, a, b, c, d⟩ := b
  simp only at hz
  show (d.inc (c.inc (b.inc (a.inc (z.inc ⟨.df, .df, .df, .df, .df⟩ fun z => ⟨z, .d0, .d0, .d0, .d0⟩) fun a => ⟨z, a, .d0, .d0, .d0⟩) fun b => ⟨z, a, b, .d0, .d0⟩) fun c => ⟨z, a, b, c, .d0⟩) fun d => (⟨z, a, b, c, d⟩ : Bid)).num = _
  rcases d.inc_cases (c.inc (b.inc (a.inc (z.inc ⟨.df, .df, .df, .df, .df⟩ fun z => ⟨z, .d0, .d0, .d0, .d0⟩) fun a => ⟨z, a, .d0, .d0, .d0⟩) fun b => ⟨z, a, b, .d0, .d0⟩) fun c => ⟨z, a, b, c, .d0⟩) (fun d => (⟨z, a, b, c, d⟩ : Bid)) with ⟨h1, e⟩ | ⟨h1, e⟩
  · rw [e]
    rcases c.inc_cases (b.inc (a.inc (z.inc ⟨.df, .df, .df, .df, .df⟩ fun z => ⟨z, .d0, .d0, .d0, .d0⟩) fun a => ⟨z, a, .d0, .d0, .d0⟩) fun b => ⟨z, a, b, .d0, .d0⟩) (fun c => (⟨z, a, b, c, .d0⟩ : Bid)) with ⟨h2, e⟩ | ⟨h2, e⟩
    · rw [e]
      rcases b.inc_cases (a.inc (z.inc ⟨.df, .df, .df, .df, .df⟩ fun z => ⟨z, .d0, .d0, .d0, .d0⟩) fun a => ⟨z, a, .d0, .d0, .d0⟩) (fun b => (⟨z, a, b, .d0, .d0⟩ : Bid)) with ⟨h3, e⟩ | ⟨h3, e⟩
      · rw [e]
        rcases a.inc_cases (z.inc ⟨.df, .df, .df, .df, .df⟩ fun z => ⟨z, .d0, .d0, .d0, .d0⟩) (fun a => (⟨z, a, .d0, .d0, .d0⟩ : Bid)) with ⟨h4, e⟩ | ⟨h4, e⟩
        · rw [e]
          rcases z.inc_cases ⟨.df, .df, .df, .df, .df⟩ (fun z => (⟨z, .d0, .d0, .d0, .d0⟩ : Bid)) with ⟨h5, e⟩ | ⟨h5, e⟩
          · exact absurd h5 hz
          · rw [e]; simp only [Bid.num, z.up_num h5, h1, h2, h3, h4]; show (((_ * 16 + 0) * 16 + 0) * 16 + 0) * 16 + 0 = _; omega
        · rw [e]; simp only [Bid.num, a.up_num h4, h1, h2, h3]; show (((_ * 16 + _) * 16 + 0) * 16 + 0) * 16 + 0 = _; omega
      · rw [e]; simp only [Bid.num, b.up_num h3, h1, h2]; show (((_ * 16 + _) * 16 + _) * 16 + 0) * 16 + 0 = _; omega
    · rw [e]; simp only [Bid.num, c.up_num h2, h1]; show (((_ * 16 + _) * 16 + _) * 16 + _) * 16 + 0 = _; omega
  · rw [e]; simp only [Bid.num, d.up_num h1]; omega
noncomputable def T1.get (d : D16) (t : T1) : AV := D16.rec (motive := fun _ => T1 → AV) (fun t => t.c0) (fun t => t.c1) (fun t => t.c2) (fun t => t.c3) (fun t => t.c4) (fun t => t.c5) (fun t => t.c6) (fun t => t.c7) (fun t => t.c8) (fun t => t.c9) (fun t => t.ca) (fun t => t.cb) (fun t => t.cc) (fun t => t.cd) (fun t => t.ce) (fun t => t.cf) d t
noncomputable def T1.set (d : D16) (t : T1) (v : AV) : T1 := D16.rec (motive := fun _ => T1 → AV → T1) (fun t v => T1.rec (motive := fun _ => T1) (fun a0 a1 a2 a3 a4 a5 a6 a7 a8 a9 aa ab ac ad ae af => .mk v a1 a2 a3 a4 a5 a6 a7 a8 a9 aa ab ac ad ae af) t) (fun t v => T1.rec (motive := fun _ => T1) (fun a0 a1 a2 a3 a4 a5 a6 a7 a8 a9 aa ab ac ad ae af => .mk a0 v a2 a3 a4 a5 a6 a7 a8 a9 aa ab ac ad ae af) t) (fun t v => T1.rec (motive := fun _ => T1) (fun a0 a1 a2 a3 a4 a5 a6 a7 a8 a9 aa ab ac ad ae af => .mk a0 a1 v a3 a4 a5 a6 a7 a8 a9 aa ab ac ad ae af) t) (fun t v => T1.rec (motive := fun _ => T1) (fun a0 a1 a2 a3 a4 a5 a6 a7 a8 a9 aa ab ac ad ae af => .mk a0 a1 a2 v a4 a5 a6 a7 a8 a9 aa ab ac ad ae af) t) (fun t v => T1.rec (motive := fun _ => T1) (fun a0 a1 a2 a3 a4 a5 a6 a7 a8 a9 aa ab ac ad ae af => .mk a0 a1 a2 a3 v a5 a6 a7 a8 a9 aa ab ac ad ae af) t) (fun t v => T1.rec (motive := fun _ => T1) (fun a0 a1 a2 a3 a4 a5 a6 a7 a8 a9 aa ab ac ad ae af => .mk a0 a1 a2 a3 a4 v a6 a7 a8 a9 aa ab ac ad ae af) t) (fun t v => T1.rec (motive := fun _ => T1) (fun a0 a1 a2 a3 a4 a5 a6 a7 a8 a9 aa ab ac ad ae af => .mk a0 a1 a2 a3 a4 a5 v a7 a8 a9 aa ab ac ad ae af) t) (fun t v => T1.rec (motive := fun _ => T1) (fun a0 a1 a2 a3 a4 a5 a6 a7 a8 a9 aa ab ac ad ae af => .mk a0 a1 a2 a3 a4 a5 a6 v a8 a9 aa ab ac ad ae af) t) (fun t v => T1.rec (motive := fun _ => T1) (fun a0 a1 a2 a3 a4 a5 a6 a7 a8 a9 aa ab ac ad ae af => .mk a0 a1 a2 a3 a4 a5 a6 a7 v a9 aa ab ac ad ae af) t) (fun t v => T1.rec (motive := fun _ => T1) (fun a0 a1 a2 a3 a4 a5 a6 a7 a8 a9 aa ab ac ad ae af => .mk a0 a1 a2 a3 a4 a5 a6 a7 a8 v aa ab ac ad ae af) t) (fun t v => T1.rec (motive := fun _ => T1) (fun a0 a1 a2 a3 a4 a5 a6 a7 a8 a9 aa ab ac ad ae af => .mk a0 a1 a2 a3 a4 a5 a6 a7 a8 a9 v ab ac ad ae af) t) (fun t v => T1.rec (motive := fun _ => T1) (fun a0 a1 a2 a3 a4 a5 a6 a7 a8 a9 aa ab ac ad ae af => .mk a0 a1 a2 a3 a4 a5 a6 a7 a8 a9 aa v ac ad ae af) t) (fun t v => T1.rec (motive := fun _ => T1) (fun a0 a1 a2 a3 a4 a5 a6 a7 a8 a9 aa ab ac ad ae af => .mk a0 a1 a2 a3 a4 a5 a6 a7 a8 a9 aa ab v ad ae af) t) (fun t v => T1.rec (motive := fun _ => T1) (fun a0 a1 a2 a3 a4 a5 a6 a7 a8 a9 aa ab ac ad ae af => .mk a0 a1 a2 a3 a4 a5 a6 a7 a8 a9 aa ab ac v ae af) t) (fun t v => T1.rec (motive := fun _ => T1) (fun a0 a1 a2 a3 a4 a5 a6 a7 a8 a9 aa ab ac ad ae af => .mk a0 a1 a2 a3 a4 a5 a6 a7 a8 a9 aa ab ac ad v af) t) (fun t v => T1.rec (motive := fun _ => T1) (fun a0 a1 a2 a3 a4 a5 a6 a7 a8 a9 aa ab ac ad ae af => .mk a0 a1 a2 a3 a4 a5 a6 a7 a8 a9 aa ab ac ad ae v) t) d t v
theorem T1.get_set (t : T1) (d e : D16) (v : AV) : (t.set d v).get e = if e = d then v else t.get e := by
  cases t; cases d <;> cases e <;> rfl
noncomputable def T2.get (d : D16) (t : T2) : T1 := D16.rec (motive := fun _ => T2 → T1) (fun t => t.c0) (fun t => t.c1) (fun t => t.c2) (fun t => t.c3) (fun t => t.c4) (fun t => t.c5) (fun t => t.c6) (fun t => t.c7) (fun t => t.c8) (fun t => t.c9) (fun t => t.ca) (fun t => t.cb) (fun t => t.cc) (fun t => t.cd) (fun t => t.ce) (fun t => t.cf) d t
noncomputable def T2.set (d : D16) (t : T2) (v : T1) : T2 := D16.rec (motive := fun _ => T2 → T1 → T2) (fun t v => T2.rec (motive := fun _ => T2) (fun a0 a1 a2 a3 a4 a5 a6 a7 a8 a9 aa ab ac ad ae af => .mk v a1 a2 a3 a4 a5 a6 a7 a8 a9 aa ab ac ad ae af) t) (fun t v => T2.rec (motive := fun _ => T2) (fun a0 a1 a2 a3 a4 a5 a6 a7 a8 a9 aa ab ac ad ae af => .mk a0 v a2 a3 a4 a5 a6 a7 a8 a9 aa ab ac ad ae af) t) (fun t v => T2.rec (motive := fun _ => T2) (fun a0 a1 a2 a3 a4 a5 a6 a7 a8 a9 aa ab ac ad ae af => .mk a0 a1 v a3 a4 a5 a6 a7 a8 a9 aa ab ac ad ae af) t) (fun t v => T2.rec (motive := fun _ => T2) (fun a0 a1 a2 a3 a4 a5 a6 a7 a8 a9 aa ab ac ad ae af => .mk a0 a1 a2 v a4 a5 a6 a7 a8 a9 aa ab ac ad ae af) t) (fun t v => T2.rec (motive := fun _ => T2) (fun a0 a1 a2 a3 a4 a5 a6 a7 a8 a9 aa ab ac ad ae af => .mk a0 a1 a2 a3 v a5 a6 a7 a8 a9 aa ab ac ad ae af) t) (fun t v => T2.rec (motive := fun _ => T2) (fun a0 a1 a2 a3 a4 a5 a6 a7 a8 a9 aa ab ac ad ae af => .mk a0 a1 a2 a3 a4 v a6 a7 a8 a9 aa ab ac ad ae af) t) (fun t v => T2.rec (motive := fun _ => T2) (fun a0 a1 a2 a3 a4 a5 a6 a7 a8 a9 aa ab ac ad ae af => .mk a0 a1 a2 a3 a4 a5 v a7 a8 a9 aa ab ac ad ae af) t) (fun t v => T2.rec (motive := fun _ => T2) (fun a0 a1 a2 a3 a4 a5 a6 a7 a8 a9 aa ab ac ad ae af => .mk a0 a1 a2 a3 a4 a5 a6 v a8 a9 aa ab ac ad ae af) t) (fun t v => T2.rec (motive := fun _ => T2) (fun a0 a1 a2 a3 a4 a5 a6 a7 a8 a9 aa ab ac ad ae af => .mk a0 a1 a2 a3 a4 a5 a6 a7 v a9 aa ab ac ad ae af) t) (fun t v => T2.rec (motive := fun _ => T2) (fun a0 a1 a2 a3 a4 a5 a6 a7 a8 a9 aa ab ac ad ae af => .mk a0 a1 a2 a3 a4 a5 a6 a7 a8 v aa ab ac ad ae af) t) (fun t v => T2.rec (motive := fun _ => T2) (fun a0 a1 a2 a3 a4 a5 a6 a7 a8 a9 aa ab ac ad ae af => .mk a0 a1 a2 a3 a4 a5 a6 a7 a8 a9 v ab ac ad ae af) t) (fun t v => T2.rec (motive := fun _ => T2) (fun a0 a1 a2 a3 a4 a5 a6 a7 a8 a9 aa ab ac ad ae af => .mk a0 a1 a2 a3 a4 a5 a6 a7 a8 a9 aa v ac ad ae af) t) (fun t v => T2.rec (motive := fun _ => T2) (fun a0 a1 a2 a3 a4 a5 a6 a7 a8 a9 aa ab ac ad ae af => .mk a0 a1 a2 a3 a4 a5 a6 a7 a8 a9 aa ab v ad ae af) t) (fun t v => T2.rec (motive := fun _ => T2) (fun a0 a1 a2 a3 a4 a5 a6 a7 a8 a9 aa ab ac ad ae af => .mk a0 a1 a2 a3 a4 a5 a6 a7 a8 a9 aa ab ac v ae af) t) (fun t v => T2.rec (motive := fun _ => T2) (fun a0 a1 a2 a3 a4 a5 a6 a7 a8 a9 aa ab ac ad ae af => .mk a0 a1 a2 a3 a4 a5 a6 a7 a8 a9 aa ab ac ad v af) t) (fun t v => T2.rec (motive := fun _ => T2) (fun a0 a1 a2 a3 a4 a5 a6 a7 a8 a9 aa ab ac ad ae af => .mk a0 a1 a2 a3 a4 a5 a6 a7 a8 a9 aa ab ac ad ae v) t) d t v
theorem T2.get_set (t : T2) (d e : D16) (v : T1) : (t.set d v).get e = if e = d then v else t.get e := by
  cases t; cases d <;> cases e <;> rfl
def dig (n : Nat) : D16 := match n with
  | 0 => .d0 | 1 => .d1 | 2 => .d2 | 3 => .d3 | 4 => .d4 | 5 => .d5 | 6 => .d6 | 7 => .d7 | 8 => .d8 | 9 => .d9 | 10 => .da | 11 => .db | 12 => .dc | 13 => .dd | 14 => .de | _ => .df
theorem dig_inj {i j : Nat} (hi : i < 16) (hj : j < 16) (h : dig i = dig j) : i = j := by
  have key : ∀ i : Fin 16, (dig i.1).num = i.1 := by decide
  have h1 := key ⟨i, hi⟩
  have h2 := key ⟨j, hj⟩
  rw [h] at h1
  exact h1.symm.trans h2
noncomputable def getN (t : Nat) (T : Tm) : AV := (T2.get (dig (Nat.div t 16)) T).get (dig (Nat.mod t 16))
noncomputable def setN (t : Nat) (T : Tm) (v : AV) : Tm := T2.set (dig (Nat.div t 16)) T ((T2.get (dig (Nat.div t 16)) T).set (dig (Nat.mod t 16)) v)
theorem getN_setN (T : Tm) (t u : Nat) (v : AV) (ht : t < 256) (hu : u < 256) : getN u (setN t T v) = if u = t then v else getN u T := by
  unfold getN setN
  rw [T2.get_set]
  have q : ∀ n, Nat.div n 16 = n / 16 := fun _ => rfl
  have r : ∀ n, Nat.mod n 16 = n % 16 := fun _ => rfl
  by_cases h1 : dig (Nat.div u 16) = dig (Nat.div t 16)
  · rw [if_pos h1, T1.get_set]
    have e1 := dig_inj (by rw [q]; omega) (by rw [q]; omega) h1
    by_cases h2 : dig (Nat.mod u 16) = dig (Nat.mod t 16)
    · have e2 := dig_inj (by rw [r]; omega) (by rw [r]; omega) h2
      rw [q, q] at e1; rw [r, r] at e2
      rw [if_pos h2, if_pos (by omega)]
    · rw [if_neg h2, if_neg (by intro e; subst e; exact h2 rfl), h1]
  · rw [if_neg h1, if_neg (by intro e; subst e; exact h1 rfl)]
theorem sel8_0 {α : Type} (a0 a1 a2 a3 a4 a5 a6 a7 : α) : sel8 0 a0 a1 a2 a3 a4 a5 a6 a7 = a0 := rfl
def pick8 {α : Type} (k : Nat) (a0 a1 a2 a3 a4 a5 a6 a7 : α) : α := match k with
  | 0 => a0 | 1 => a1 | 2 => a2 | 3 => a3 | 4 => a4 | 5 => a5 | 6 => a6 | _ => a7
theorem sel8_eq {α : Type} (k : Nat) (a0 a1 a2 a3 a4 a5 a6 a7 : α) : sel8 k a0 a1 a2 a3 a4 a5 a6 a7 = pick8 k a0 a1 a2 a3 a4 a5 a6 a7 := by
  rcases k with _ | _ | _ | _ | _ | _ | _ | k <;> rfl
theorem sel8_map {α β : Type} (f : α → β) (k : Nat) (a0 a1 a2 a3 a4 a5 a6 a7 : α) : f (sel8 k a0 a1 a2 a3 a4 a5 a6 a7) = sel8 k (f a0) (f a1) (f a2) (f a3) (f a4) (f a5) (f a6) (f a7) := by
  rw [sel8_eq, sel8_eq]; unfold pick8; split <;> rfl
theorem sel8_app {α β : Type} (x : α) (k : Nat) (a0 a1 a2 a3 a4 a5 a6 a7 : α → β) : (sel8 k a0 a1 a2 a3 a4 a5 a6 a7) x = sel8 k (a0 x) (a1 x) (a2 x) (a3 x) (a4 x) (a5 x) (a6 x) (a7 x) := sel8_map (fun f => f x) k a0 a1 a2 a3 a4 a5 a6 a7
end Go.Proofs.YtaogloegiffioaaGreatDoor
namespace Go.Proofs.YtaogloegiffioaaGreatDoor
theorem bitsAt_eq (w n m i l : Nat) : bitsAt w n m i l = m / 2 ^ (w * (n - (i + l))) % 2 ^ (w * l) := by
  show (m >>> (w * (n - (i + l)))) % (2 ^ (w * l)) = _
  rw [Nat.shiftRight_eq_div_pow]
theorem bitsAt_lt (w n m i l : Nat) : bitsAt w n m i l < 2 ^ (w * l) := by rw [bitsAt_eq]; exact Nat.mod_lt _ (Nat.two_pow_pos _)
theorem bitsAt_bit (w n m i l j : Nat) : (bitsAt w n m i l).testBit j = (decide (j < w * l) && m.testBit (w * (n - (i + l)) + j)) := by
  show ((m >>> (w * (n - (i + l)))) % (2 ^ (w * l))).testBit j = _
  rw [Nat.testBit_mod_two_pow, Nat.testBit_shiftRight]
theorem app_bit {m k y : Nat} (hy : y < 2 ^ k) (j : Nat) : (Nat.add (Nat.shiftLeft m k) y).testBit j = if j < k then y.testBit j else m.testBit (j - k) := by
  show (m <<< k + y).testBit j = _
  rw [Nat.shiftLeft_eq, Nat.mul_comm]
  exact Nat.testBit_two_pow_mul_add m hy j
theorem bits_app_old {w n k m y i l : Nat} (hy : y < 2 ^ (w * k)) (h : i + l ≤ n) : bitsAt w (n + k) (Nat.add (Nat.shiftLeft m (Nat.mul w k)) y) i l = bitsAt w n m i l := by
  refine Nat.eq_of_testBit_eq fun j => ?_
  rw [show Nat.mul w k = w * k from rfl, bitsAt_bit, bitsAt_bit, app_bit hy]
  have e : w * (n + k - (i + l)) = w * k + w * (n - (i + l)) := by rw [← Nat.mul_add]; congr 1; omega
  rw [e, if_neg (by omega)]
  congr 2; show _ - (w * k) = _; omega
theorem bits_app_new {w n k m y i l : Nat} (hy : y < 2 ^ (w * k)) (h : i + l ≤ k) : bitsAt w (n + k) (Nat.add (Nat.shiftLeft m (Nat.mul w k)) y) (n + i) l = bitsAt w k y i l := by
  refine Nat.eq_of_testBit_eq fun j => ?_
  rw [show Nat.mul w k = w * k from rfl, bitsAt_bit, bitsAt_bit, app_bit hy]
  have e : n + k - (n + i + l) = k - (i + l) := by omega
  rw [e]
  by_cases hj : j < w * l
  · have h1 : w * (k - (i + l)) + w * l ≤ w * k := by rw [← Nat.mul_add]; exact Nat.mul_le_mul_left _ (by omega)
    rw [if_pos (by show _ < w * k; omega)]
  · simp [hj]
theorem bits_sub {w n m o l i j : Nat} (h : i + j ≤ l) (ho : o + l ≤ n) : bitsAt w l (bitsAt w n m o l) i j = bitsAt w n m (o + i) j := by
  refine Nat.eq_of_testBit_eq fun q => ?_
  rw [bitsAt_bit, bitsAt_bit, bitsAt_bit]
  by_cases hq : q < w * j
  · have h1 : w * (l - (i + j)) + w * j ≤ w * l := by rw [← Nat.mul_add]; exact Nat.mul_le_mul_left _ (by omega)
    have h2 : w * (n - (o + l)) + w * (l - (i + j)) = w * (n - (o + i + j)) := by rw [← Nat.mul_add]; congr 1; omega
    rw [decide_eq_true (show w * (l - (i + j)) + q < w * l by omega), Bool.true_and, ← Nat.add_assoc, h2]
  · simp [hq]
theorem bits_all {w n m : Nat} (h : m < 2 ^ (w * n)) : bitsAt w n m 0 n = m := by
  rw [bitsAt_eq, Nat.zero_add, Nat.sub_self, Nat.mul_zero, Nat.pow_zero, Nat.div_one, Nat.mod_eq_of_lt h]
theorem bitsSet_parts (w n m i l x : Nat) : ∃ hi lo, lo < 2 ^ (w * (n - (i + l))) ∧ m = 2 ^ (w * (n - (i + l))) * (2 ^ (w * l) * hi + bitsAt w n m i l) + lo ∧ bitsSet w n m i l x = 2 ^ (w * (n - (i + l))) * (2 ^ (w * l) * hi + x) + lo := by
  refine ⟨m / 2 ^ (w * (n - (i + l))) / 2 ^ (w * l), m % 2 ^ (w * (n - (i + l))), Nat.mod_lt _ (Nat.two_pow_pos _), ?_, ?_⟩
  · rw [bitsAt_eq, Nat.div_add_mod, Nat.div_add_mod]
  · have hm : m = 2 ^ (w * (n - (i + l))) * (2 ^ (w * l) * (m / 2 ^ (w * (n - (i + l))) / 2 ^ (w * l)) + bitsAt w n m i l) + m % 2 ^ (w * (n - (i + l))) := by
      rw [bitsAt_eq, Nat.div_add_mod, Nat.div_add_mod]
    show m + x <<< (w * (n - (i + l))) - (bitsAt w n m i l) <<< (w * (n - (i + l))) = _
    rw [Nat.shiftLeft_eq, Nat.shiftLeft_eq]
    generalize 2 ^ (w * (n - (i + l))) = A at *
    generalize bitsAt w n m i l = o at *
    generalize 2 ^ (w * l) * (m / A / 2 ^ (w * l)) = B at *
    generalize m % A = C at *
    have e1 : A * (B + o) = A * B + o * A := by rw [Nat.mul_add, Nat.mul_comm A o]
    have e2 : A * (B + x) = A * B + x * A := by rw [Nat.mul_add, Nat.mul_comm A x]
    omega
theorem bits_set_new {w n m i l x : Nat} (hx : x < 2 ^ (w * l)) : bitsAt w n (bitsSet w n m i l x) i l = x := by
  obtain ⟨hi, lo, h1, _, h3⟩ := bitsSet_parts w n m i l x
  rw [bitsAt_eq, h3]
  rw [Nat.mul_add_div (Nat.two_pow_pos _), Nat.div_eq_of_lt h1, Nat.add_zero, Nat.mul_add_mod, Nat.mod_eq_of_lt hx]
theorem bits_set_old {w n m i l x j k : Nat} (hx : x < 2 ^ (w * l)) (hn : i + l ≤ n) (hk : j + k ≤ n) (h : j + k ≤ i ∨ i + l ≤ j) : bitsAt w n (bitsSet w n m i l x) j k = bitsAt w n m j k := by
  obtain ⟨hi, lo, h1, h2, h3⟩ := bitsSet_parts w n m i l x
  have ho := bitsAt_lt w n m i l
  refine Nat.eq_of_testBit_eq fun q => ?_
  rw [bitsAt_bit, bitsAt_bit, h3]
  generalize bitsAt w n m i l = o at *
  subst h2
  by_cases hq : q < w * k
  · congr 1
    rw [Nat.testBit_two_pow_mul_add _ h1, Nat.testBit_two_pow_mul_add _ h1]
    split
    · rfl
    · next hge =>
      rw [Nat.testBit_two_pow_mul_add _ hx, Nat.testBit_two_pow_mul_add _ ho]
      rcases h with h | h
      · have e : w * (n - (j + k)) = w * (n - (i + l)) + w * l + w * (i - (j + k)) := by rw [← Nat.mul_add, ← Nat.mul_add]; congr 1; omega
        rw [if_neg (by omega), if_neg (by omega)]
      · have e : w * (n - (j + k)) + w * k ≤ w * (n - (i + l)) := by rw [← Nat.mul_add]; exact Nat.mul_le_mul_left _ (by omega)
        omega
  · simp [hq]
theorem bits_set_lt {w n m i l x : Nat} (hx : x < 2 ^ (w * l)) (hn : i + l ≤ n) (hm : m < 2 ^ (w * n)) : bitsSet w n m i l x < 2 ^ (w * n) := by
  obtain ⟨hi, lo, h1, h2, h3⟩ := bitsSet_parts w n m i l x
  rw [h3]
  have hb : hi < 2 ^ (w * i) := by
    rcases Nat.lt_or_ge hi (2 ^ (w * i)) with h | h
    · exact h
    · exfalso
      have e : 2 ^ (w * n) = 2 ^ (w * (n - (i + l))) * (2 ^ (w * l) * 2 ^ (w * i)) := by
        rw [← Nat.pow_add, ← Nat.pow_add, ← Nat.mul_add, ← Nat.mul_add]; congr 2; omega
      have g : 2 ^ (w * (n - (i + l))) * (2 ^ (w * l) * 2 ^ (w * i)) ≤ 2 ^ (w * (n - (i + l))) * (2 ^ (w * l) * hi + bitsAt w n m i l) :=
        Nat.mul_le_mul_left _ (Nat.le_trans (Nat.mul_le_mul_left _ h) (Nat.le_add_right _ _))
      omega
  have e : 2 ^ (w * n) = 2 ^ (w * (n - (i + l))) * (2 ^ (w * l) * 2 ^ (w * i)) := by
    rw [← Nat.pow_add, ← Nat.pow_add, ← Nat.mul_add, ← Nat.mul_add]; congr 2; omega
  rw [e]
  have g1 : 2 ^ (w * l) * hi + x + 1 ≤ 2 ^ (w * l) * 2 ^ (w * i) := by
    have : 2 ^ (w * l) * (hi + 1) ≤ 2 ^ (w * l) * 2 ^ (w * i) := Nat.mul_le_mul_left _ hb
    rw [Nat.mul_add] at this; omega
  have g2 : 2 ^ (w * (n - (i + l))) * (2 ^ (w * l) * hi + x + 1) ≤ 2 ^ (w * (n - (i + l))) * (2 ^ (w * l) * 2 ^ (w * i)) := Nat.mul_le_mul_left _ g1
  rw [Nat.mul_add] at g2; omega
theorem app_lt {w n k m y : Nat} (hm : m < 2 ^ (w * n)) (hy : y < 2 ^ (w * k)) : Nat.add (Nat.shiftLeft m (Nat.mul w k)) y < 2 ^ (w * (n + k)) := by
  show m <<< (w * k) + y < _
  rw [Nat.shiftLeft_eq, Nat.mul_add, Nat.pow_add]
  have : (m + 1) * 2 ^ (w * k) ≤ 2 ^ (w * n) * 2 ^ (w * k) := Nat.mul_le_mul_right _ hm
  rw [Nat.add_mul] at this; omega
theorem bits_set_cell {w n m i l x j : Nat} (hx : x < 2 ^ (w * l)) (hn : i + l ≤ n) (hj : j < n) : bitsAt w n (bitsSet w n m i l x) j 1 = if i ≤ j ∧ j < i + l then bitsAt w l x (j - i) 1 else bitsAt w n m j 1 := by
  by_cases h : i ≤ j ∧ j < i + l
  · rw [if_pos h]
    have := bits_sub (w := w) (n := n) (m := bitsSet w n m i l x) (o := i) (l := l) (i := j - i) (j := 1) (by omega) hn
    rw [bits_set_new hx] at this
    rw [this]; congr 1; omega
  · rw [if_neg h]
    exact bits_set_old hx hn (by omega) (by omega)
end Go.Proofs.YtaogloegiffioaaGreatDoor
namespace Go.Proofs.YtaogloegiffioaaGreatDoor
theorem Row.ind {m : Row → Prop} (he : m .e) (hl : ∀ a0 a1 a2 a3 a4 a5 a6 a7, m (.l a0 a1 a2 a3 a4 a5 a6 a7)) (hn : ∀ p a0 a1 a2 a3 a4 a5 a6 a7, m a0 → m a1 → m a2 → m a3 → m a4 → m a5 → m a6 → m a7 → m (.n p a0 a1 a2 a3 a4 a5 a6 a7)) (r : Row) : m r :=
  Row.rec (motive_1 := fun _ => True) (motive_2 := fun _ => True) (motive_3 := m) (fun _ => trivial) (fun _ => trivial) (fun _ => trivial) (fun _ => trivial) (fun _ => trivial) (fun _ => trivial) (fun _ _ => trivial) (fun _ => trivial) (fun _ _ => trivial) (fun _ _ _ _ _ _ => trivial) (fun _ _ _ => trivial) (fun _ => trivial) (fun _ _ _ => trivial) (fun _ _ _ => trivial) (fun _ _ => trivial) trivial (fun _ _ _ _ => trivial) he (fun a0 a1 a2 a3 a4 a5 a6 a7 _ _ _ _ _ _ _ _ => hl a0 a1 a2 a3 a4 a5 a6 a7) (fun p a0 a1 a2 a3 a4 a5 a6 a7 h0 h1 h2 h3 h4 h5 h6 h7 => hn p a0 a1 a2 a3 a4 a5 a6 a7 h0 h1 h2 h3 h4 h5 h6 h7) r
noncomputable def Row.ok (r : Row) : Nat → Prop := Row.rec (motive_1 := fun _ => Unit) (motive_2 := fun _ => Unit) (motive_3 := fun _ => Nat → Prop) (fun _ => ()) (fun _ => ()) (fun _ => ()) (fun _ => ()) (fun _ => ()) (fun _ => ()) (fun _ _ => ()) (fun _ => ()) (fun _ _ => ()) (fun _ _ _ _ _ _ => ()) (fun _ _ _ => ()) (fun _ => ()) (fun _ _ _ => ()) (fun _ _ _ => ()) (fun _ _ => ()) () (fun _ _ _ _ => ()) (fun _ => True) (fun a0 a1 a2 a3 a4 a5 a6 a7 _ _ _ _ _ _ _ _ d => d = 0)
  (fun p a0 a1 a2 a3 a4 a5 a6 a7 h0 h1 h2 h3 h4 h5 h6 h7 d => ∃ e, d = e + 1 ∧ p = 8 ^ (e + 1) ∧ h0 e ∧ h1 e ∧ h2 e ∧ h3 e ∧ h4 e ∧ h5 e ∧ h6 e ∧ h7 e) r
theorem Row.ok_e (d : Nat) : (Row.e).ok d := trivial
theorem Row.ok_l (a0 a1 a2 a3 a4 a5 a6 a7 : AV) : (Row.l a0 a1 a2 a3 a4 a5 a6 a7).ok 0 := rfl
theorem Row.ok_n {p : Nat} {a0 a1 a2 a3 a4 a5 a6 a7 : Row} {d : Nat} : (Row.n p a0 a1 a2 a3 a4 a5 a6 a7).ok d ↔ ∃ e, d = e + 1 ∧ p = 8 ^ (e + 1) ∧ ∀ i, i < 8 → (sel8 i a0 a1 a2 a3 a4 a5 a6 a7).ok e := by
  constructor
  · rintro ⟨e, h1, h2, k0, k1, k2, k3, k4, k5, k6, k7⟩
    refine ⟨e, h1, h2, fun i hi => ?_⟩
    rcases i with _ | _ | _ | _ | _ | _ | _ | _ | i <;> first | exact k0 | exact k1 | exact k2 | exact k3 | exact k4 | exact k5 | exact k6 | exact k7 | omega
  · rintro ⟨e, h1, h2, h⟩
    exact ⟨e, h1, h2, h 0 (by omega), h 1 (by omega), h 2 (by omega), h 3 (by omega), h 4 (by omega), h 5 (by omega), h 6 (by omega), h 7 (by omega)⟩
theorem Row.get_e (k : Nat) : (Row.e).get k = .no := rfl
theorem Row.get_l (a0 a1 a2 a3 a4 a5 a6 a7 : AV) (k : Nat) : (Row.l a0 a1 a2 a3 a4 a5 a6 a7).get k = .ok (sel8 k a0 a1 a2 a3 a4 a5 a6 a7) := rfl
theorem Row.get_n (p : Nat) (a0 a1 a2 a3 a4 a5 a6 a7 : Row) (k : Nat) : (Row.n p a0 a1 a2 a3 a4 a5 a6 a7).get k = (sel8 (k / p) a0 a1 a2 a3 a4 a5 a6 a7).get (k % p) :=
  (sel8_app (k % p) (k / p) a0.get a1.get a2.get a3.get a4.get a5.get a6.get a7.get).trans (sel8_map (fun r : Row => r.get (k % p)) (k / p) a0 a1 a2 a3 a4 a5 a6 a7).symm
theorem Row.cap_ok {r : Row} {d : Nat} (h : r.ok d) : r.cap = 0 ∨ r.cap = 8 ^ (d + 1) := by
  cases r with
  | e => exact .inl rfl
  | l a0 a1 a2 a3 a4 a5 a6 a7 => have : d = 0 := h; subst this; exact .inr rfl
  | n p a0 a1 a2 a3 a4 a5 a6 a7 =>
    obtain ⟨e, h1, h2, _⟩ := Row.ok_n.1 h
    subst h1 h2
    refine .inr ?_
    show 8 * 8 ^ (e + 1) = _
    rw [Nat.pow_succ 8 (e + 1), Nat.mul_comm]
theorem Row.get_cap0 {r : Row} (h : r.cap = 0) {d : Nat} (ho : r.ok d) (k : Nat) : r.get k = .no := by
  cases r with
  | e => rfl
  | l a0 a1 a2 a3 a4 a5 a6 a7 => cases h
  | n p a0 a1 a2 a3 a4 a5 a6 a7 =>
    obtain ⟨e, h1, h2, _⟩ := Row.ok_n.1 ho
    have h : 8 * p = 0 := h
    have := Nat.pow_pos (n := e + 1) (show 0 < 8 by omega)
    omega
theorem leafSet_spec (k : Nat) (hk : k < 8) (a0 a1 a2 a3 a4 a5 a6 a7 v : AV) : ∃ b0 b1 b2 b3 b4 b5 b6 b7, leafSet k a0 a1 a2 a3 a4 a5 a6 a7 v = .l b0 b1 b2 b3 b4 b5 b6 b7 ∧ ∀ i, i < 8 → sel8 i b0 b1 b2 b3 b4 b5 b6 b7 = if i = k then v else sel8 i a0 a1 a2 a3 a4 a5 a6 a7 := by
  rcases k with _ | _ | _ | _ | _ | _ | _ | _ | k
  · exact ⟨v, a1, a2, a3, a4, a5, a6, a7, rfl, fun i hi => by rcases i with _ | _ | _ | _ | _ | _ | _ | _ | i <;> first | rfl | omega⟩
  · exact ⟨a0, v, a2, a3, a4, a5, a6, a7, rfl, fun i hi => by rcases i with _ | _ | _ | _ | _ | _ | _ | _ | i <;> first | rfl | omega⟩
  · exact ⟨a0, a1, v, a3, a4, a5, a6, a7, rfl, fun i hi => by rcases i with _ | _ | _ | _ | _ | _ | _ | _ | i <;> first | rfl | omega⟩
  · exact ⟨a0, a1, a2, v, a4, a5, a6, a7, rfl, fun i hi => by rcases i with _ | _ | _ | _ | _ | _ | _ | _ | i <;> first | rfl | omega⟩
  · exact ⟨a0, a1, a2, a3, v, a5, a6, a7, rfl, fun i hi => by rcases i with _ | _ | _ | _ | _ | _ | _ | _ | i <;> first | rfl | omega⟩
  · exact ⟨a0, a1, a2, a3, a4, v, a6, a7, rfl, fun i hi => by rcases i with _ | _ | _ | _ | _ | _ | _ | _ | i <;> first | rfl | omega⟩
  · exact ⟨a0, a1, a2, a3, a4, a5, v, a7, rfl, fun i hi => by rcases i with _ | _ | _ | _ | _ | _ | _ | _ | i <;> first | rfl | omega⟩
  · exact ⟨a0, a1, a2, a3, a4, a5, a6, v, rfl, fun i hi => by rcases i with _ | _ | _ | _ | _ | _ | _ | _ | i <;> first | rfl | omega⟩
  · omega
theorem nodeSet_spec (p : Nat) (F : Row → Row) (k : Nat) (hk : k < 8) (a0 a1 a2 a3 a4 a5 a6 a7 : Row) : ∃ b0 b1 b2 b3 b4 b5 b6 b7, sel8 k (Row.n p (F a0) a1 a2 a3 a4 a5 a6 a7) (Row.n p a0 (F a1) a2 a3 a4 a5 a6 a7) (Row.n p a0 a1 (F a2) a3 a4 a5 a6 a7) (Row.n p a0 a1 a2 (F a3) a4 a5 a6 a7) (Row.n p a0 a1 a2 a3 (F a4) a5 a6 a7) (Row.n p a0 a1 a2 a3 a4 (F a5) a6 a7) (Row.n p a0 a1 a2 a3 a4 a5 (F a6) a7) (Row.n p a0 a1 a2 a3 a4 a5 a6 (F a7)) = .n p b0 b1 b2 b3 b4 b5 b6 b7 ∧ ∀ i, i < 8 → sel8 i b0 b1 b2 b3 b4 b5 b6 b7 = if i = k then F (sel8 k a0 a1 a2 a3 a4 a5 a6 a7) else sel8 i a0 a1 a2 a3 a4 a5 a6 a7 := by
  rcases k with _ | _ | _ | _ | _ | _ | _ | _ | k
  · exact ⟨F a0, a1, a2, a3, a4, a5, a6, a7, rfl, fun i hi => by rcases i with _ | _ | _ | _ | _ | _ | _ | _ | i <;> first | rfl | omega⟩
  · exact ⟨a0, F a1, a2, a3, a4, a5, a6, a7, rfl, fun i hi => by rcases i with _ | _ | _ | _ | _ | _ | _ | _ | i <;> first | rfl | omega⟩
  · exact ⟨a0, a1, F a2, a3, a4, a5, a6, a7, rfl, fun i hi => by rcases i with _ | _ | _ | _ | _ | _ | _ | _ | i <;> first | rfl | omega⟩
  · exact ⟨a0, a1, a2, F a3, a4, a5, a6, a7, rfl, fun i hi => by rcases i with _ | _ | _ | _ | _ | _ | _ | _ | i <;> first | rfl | omega⟩
  · exact ⟨a0, a1, a2, a3, F a4, a5, a6, a7, rfl, fun i hi => by rcases i with _ | _ | _ | _ | _ | _ | _ | _ | i <;> first | rfl | omega⟩
  · exact ⟨a0, a1, a2, a3, a4, F a5, a6, a7, rfl, fun i hi => by rcases i with _ | _ | _ | _ | _ | _ | _ | _ | i <;> first | rfl | omega⟩
  · exact ⟨a0, a1, a2, a3, a4, a5, F a6, a7, rfl, fun i hi => by rcases i with _ | _ | _ | _ | _ | _ | _ | _ | i <;> first | rfl | omega⟩
  · exact ⟨a0, a1, a2, a3, a4, a5, a6, F a7, rfl, fun i hi => by rcases i with _ | _ | _ | _ | _ | _ | _ | _ | i <;> first | rfl | omega⟩
  · omega
theorem sel8_e (i : Nat) : sel8 i Row.e Row.e Row.e Row.e Row.e Row.e Row.e Row.e = Row.e := by
  rw [sel8_eq]; unfold pick8; split <;> rfl
theorem sel8_u (i : Nat) : sel8 i undefA undefA undefA undefA undefA undefA undefA undefA = undefA := by
  rw [sel8_eq]; unfold pick8; split <;> rfl
theorem pow8_pos (n : Nat) : 0 < 8 ^ n := Nat.pow_pos (by omega)
theorem Row.one_ok (v : AV) : ∀ (d f k : Nat), d ≤ f → k < 8 ^ (d + 1) → (Row.one f (8 ^ (d + 1)) k v).ok d ∧ (Row.one f (8 ^ (d + 1)) k v).get k = .ok v ∧ (Row.one f (8 ^ (d + 1)) k v).cap = 8 ^ (d + 1) := by
  have leaf : ∀ k, k < 8 → (leaf1 k v).ok 0 ∧ (leaf1 k v).get k = .ok v ∧ (leaf1 k v).cap = 8 := fun k hk => by
    obtain ⟨b0, b1, b2, b3, b4, b5, b6, b7, h1, h2⟩ := leafSet_spec k hk undefA undefA undefA undefA undefA undefA undefA undefA v
    unfold leaf1
    rw [h1]
    exact ⟨rfl, by rw [Row.get_l, h2 k hk, if_pos rfl], rfl⟩
  intro d
  induction d with
  | zero =>
    intro f k _ hk
    cases f with
    | zero => exact leaf k hk
    | succ f => exact leaf k hk
  | succ d ih =>
    intro f k hf hk
    cases f with
    | zero => omega
    | succ f =>
      have hp : 8 ^ (d + 1 + 1) = 8 * 8 ^ (d + 1) := by rw [Nat.pow_succ, Nat.mul_comm]
      have h8 : Nat.ble (8 ^ (d + 1 + 1)) 8 = false := by
        cases e : Nat.ble (8 ^ (d + 1 + 1)) 8 with
        | false => rfl
        | true =>
          have := Nat.le_of_ble_eq_true e
          have := pow8_pos d
          rw [hp, Nat.pow_succ] at *
          omega
      have hdiv : Nat.div (8 ^ (d + 1 + 1)) 8 = 8 ^ (d + 1) := by show _ / 8 = _; rw [hp, Nat.mul_div_cancel_left _ (by omega)]
      have hq : k / 8 ^ (d + 1) < 8 := by rw [Nat.div_lt_iff_lt_mul (pow8_pos _)]; omega
      obtain ⟨g1, g2, g3⟩ := ih f (k % 8 ^ (d + 1)) (by omega) (Nat.mod_lt _ (pow8_pos _))
      have e1 : Row.one (f + 1) (8 ^ (d + 1 + 1)) k v = nodeSet (8 ^ (d + 1)) .e .e .e .e .e .e .e .e (k / 8 ^ (d + 1)) (Row.one f (8 ^ (d + 1)) (k % 8 ^ (d + 1)) v) := by
        show Bool.rec (motive := fun _ => Row) (nodeSet (Nat.div (8 ^ (d + 1 + 1)) 8) .e .e .e .e .e .e .e .e (Nat.div k (Nat.div (8 ^ (d + 1 + 1)) 8)) (Row.one f (Nat.div (8 ^ (d + 1 + 1)) 8) (Nat.mod k (Nat.div (8 ^ (d + 1 + 1)) 8)) v)) (leaf1 k v) (Nat.ble (8 ^ (d + 1 + 1)) 8) = _
        rw [h8, hdiv]; rfl
      obtain ⟨b0, b1, b2, b3, b4, b5, b6, b7, n1, n2⟩ := nodeSet_spec (8 ^ (d + 1)) (fun _ => Row.one f (8 ^ (d + 1)) (k % 8 ^ (d + 1)) v) (k / 8 ^ (d + 1)) hq .e .e .e .e .e .e .e .e
      have e2 : Row.one (f + 1) (8 ^ (d + 1 + 1)) k v = .n (8 ^ (d + 1)) b0 b1 b2 b3 b4 b5 b6 b7 := e1.trans n1
      rw [e2]
      refine ⟨Row.ok_n.2 ⟨d, rfl, rfl, fun i hi => ?_⟩, ?_, by show 8 * 8 ^ (d + 1) = _; omega⟩
      · rw [n2 i hi]; split
        · exact g1
        · rw [sel8_e]; trivial
      · rw [Row.get_n, n2 _ hq, if_pos rfl]; exact g2
theorem Row.set_ok (v : AV) (r : Row) : ∀ (d q k : Nat), r.ok d → (r = .e → q = 8 ^ (d + 1)) → k < 8 ^ (d + 1) →
    (r.set q k v).ok d ∧ (r.set q k v).cap = 8 ^ (d + 1) ∧ (r.set q k v).get k = .ok v ∧ ∀ j, j < 8 ^ (d + 1) → j ≠ k → ∀ u, r.get j = .ok u → (r.set q k v).get j = .ok u := by
  induction r using Row.ind with
  | he =>
    intro d q k _ hq hk
    have hq := hq rfl
    subst hq
    obtain ⟨g1, g2, g3⟩ := Row.one_ok v d (8 ^ (d + 1)) k (Nat.le_of_lt (Nat.lt_of_lt_of_le (Nat.lt_pow_self (by omega)) (Nat.pow_le_pow_right (by omega) (by omega)))) hk
    exact ⟨g1, g3, g2, fun j _ _ u h => by rw [Row.get_e] at h; cases h⟩
  | hl a0 a1 a2 a3 a4 a5 a6 a7 =>
    intro d q k hd _ hk
    have hd : d = 0 := hd
    subst hd
    have hk : k < 8 := hk
    obtain ⟨b0, b1, b2, b3, b4, b5, b6, b7, h1, h2⟩ := leafSet_spec k hk a0 a1 a2 a3 a4 a5 a6 a7 v
    have e : (Row.l a0 a1 a2 a3 a4 a5 a6 a7).set q k v = .l b0 b1 b2 b3 b4 b5 b6 b7 := h1
    rw [e]
    exact ⟨rfl, rfl, by rw [Row.get_l, h2 k hk, if_pos rfl], fun j hj hne u hu => by rw [Row.get_l] at hu ⊢; rw [h2 j hj, if_neg hne]; exact hu⟩
  | hn p a0 a1 a2 a3 a4 a5 a6 a7 i0 i1 i2 i3 i4 i5 i6 i7 =>
    intro d q k hd _ hk
    obtain ⟨e, h1, h2, hc⟩ := Row.ok_n.1 hd
    subst h1 h2
    have hp : 8 ^ (e + 1 + 1) = 8 * 8 ^ (e + 1) := by rw [Nat.pow_succ, Nat.mul_comm]
    have hq : k / 8 ^ (e + 1) < 8 := by rw [Nat.div_lt_iff_lt_mul (pow8_pos _)]; omega
    obtain ⟨b0, b1, b2, b3, b4, b5, b6, b7, n1, n2⟩ := nodeSet_spec (8 ^ (e + 1)) (fun r => r.set (8 ^ (e + 1)) (k % 8 ^ (e + 1)) v) (k / 8 ^ (e + 1)) hq a0 a1 a2 a3 a4 a5 a6 a7
    have e2 : (Row.n (8 ^ (e + 1)) a0 a1 a2 a3 a4 a5 a6 a7).set q k v = .n (8 ^ (e + 1)) b0 b1 b2 b3 b4 b5 b6 b7 := n1
    have kid : ∀ i, i < 8 → ∀ (d q k : Nat), (sel8 i a0 a1 a2 a3 a4 a5 a6 a7).ok d → (sel8 i a0 a1 a2 a3 a4 a5 a6 a7 = .e → q = 8 ^ (d + 1)) → k < 8 ^ (d + 1) →
        ((sel8 i a0 a1 a2 a3 a4 a5 a6 a7).set q k v).ok d ∧ ((sel8 i a0 a1 a2 a3 a4 a5 a6 a7).set q k v).cap = 8 ^ (d + 1) ∧ ((sel8 i a0 a1 a2 a3 a4 a5 a6 a7).set q k v).get k = .ok v ∧ ∀ j, j < 8 ^ (d + 1) → j ≠ k → ∀ u, (sel8 i a0 a1 a2 a3 a4 a5 a6 a7).get j = .ok u → ((sel8 i a0 a1 a2 a3 a4 a5 a6 a7).set q k v).get j = .ok u := fun i hi => by
      rcases i with _ | _ | _ | _ | _ | _ | _ | _ | i
      · exact i0
      · exact i1
      · exact i2
      · exact i3
      · exact i4
      · exact i5
      · exact i6
      · exact i7
      · omega
    obtain ⟨g1, g2, g3, g4⟩ := kid _ hq e (8 ^ (e + 1)) (k % 8 ^ (e + 1)) (hc _ hq) (fun _ => rfl) (Nat.mod_lt _ (pow8_pos _))
    rw [e2]
    refine ⟨Row.ok_n.2 ⟨e, rfl, rfl, fun i hi => ?_⟩, by show 8 * 8 ^ (e + 1) = _; omega, ?_, ?_⟩
    · rw [n2 i hi]; split
      · exact g1
      · exact hc i hi
    · rw [Row.get_n, n2 _ hq, if_pos rfl]; exact g3
    · intro j hj hne u hu
      have hqj : j / 8 ^ (e + 1) < 8 := by rw [Nat.div_lt_iff_lt_mul (pow8_pos _)]; omega
      rw [Row.get_n] at hu ⊢
      rw [n2 _ hqj]
      by_cases hs : j / 8 ^ (e + 1) = k / 8 ^ (e + 1)
      · rw [if_pos hs]
        rw [hs] at hu
        refine g4 _ (Nat.mod_lt _ (pow8_pos _)) (fun hm => hne ?_) u hu
        rw [← Nat.div_add_mod j (8 ^ (e + 1)), ← Nat.div_add_mod k (8 ^ (e + 1)), hs, hm]
      · rw [if_neg hs]; exact hu
def Row.good (r : Row) : Prop := ∃ d, r.ok d
theorem Row.set_good {r : Row} (h : r.good) {k : Nat} (hk : k < r.cap) (q : Nat) (v : AV) :
    (r.set q k v).good ∧ (r.set q k v).cap = r.cap ∧ (r.set q k v).get k = .ok v ∧ ∀ j, j < r.cap → j ≠ k → ∀ u, r.get j = .ok u → (r.set q k v).get j = .ok u := by
  obtain ⟨d, hd⟩ := h
  rcases Row.cap_ok hd with hc | hc
  · omega
  · rw [hc] at hk ⊢
    obtain ⟨g1, g2, g3, g4⟩ := Row.set_ok v r d q k hd (fun e => by subst e; have := pow8_pos (d + 1); have hc : 0 = 8 ^ (d + 1) := hc; omega) hk
    exact ⟨⟨d, g1⟩, g2, g3, g4⟩
theorem Row.put_good {r : Row} (h : r.good) {k : Nat} (hk : k ≤ r.cap) (v : AV) :
    (r.put k v).good ∧ k < (r.put k v).cap ∧ r.cap ≤ (r.put k v).cap ∧ (r.put k v).get k = .ok v ∧ ∀ j, j < r.cap → j ≠ k → ∀ u, r.get j = .ok u → (r.put k v).get j = .ok u := by
  unfold Row.put
  cases hb : Nat.ble (Nat.succ k) r.cap with
  | true =>
    have hlt : k < r.cap := Nat.le_of_ble_eq_true hb
    obtain ⟨g1, g2, g3, g4⟩ := Row.set_good h hlt 0 v
    exact ⟨g1, by show k < (r.set 0 k v).cap; omega, by show _ ≤ (r.set 0 k v).cap; omega, g3, g4⟩
  | false =>
    have hge : ¬ k < r.cap := fun hlt => by rw [Nat.ble_eq_true_of_le hlt] at hb; cases hb
    have hk : k = r.cap := by omega
    cases hcap : r.cap with
    | zero =>
      rw [hcap] at hk
      subst hk
      exact ⟨⟨0, rfl⟩, by show 0 < 8; omega, by show 0 ≤ 8; omega, rfl, fun j hj => by omega⟩
    | succ c =>
      obtain ⟨d, hd⟩ := h
      have hc := (Row.cap_ok hd).resolve_left (by omega)
      have hp : 8 ^ (d + 1 + 1) = 8 * 8 ^ (d + 1) := by rw [Nat.pow_succ, Nat.mul_comm]
      have hc1 : c + 1 = 8 ^ (d + 1) := by omega
      have hok : (Row.n (8 ^ (d + 1)) r .e .e .e .e .e .e .e).ok (d + 1) := Row.ok_n.2 ⟨d, rfl, rfl, fun i hi => by
        rcases i with _ | _ | _ | _ | _ | _ | _ | _ | i <;> first | exact hd | trivial | omega⟩
      have hpos := pow8_pos (d + 1)
      obtain ⟨g1, g2, g3, g4⟩ := Row.set_ok v (Row.n (8 ^ (d + 1)) r .e .e .e .e .e .e .e) (d + 1) 0 k hok (fun e => by cases e) (by omega)
      show ((Row.n (c + 1) r .e .e .e .e .e .e .e).set 0 k v).good ∧ k < ((Row.n (c + 1) r .e .e .e .e .e .e .e).set 0 k v).cap ∧ c + 1 ≤ ((Row.n (c + 1) r .e .e .e .e .e .e .e).set 0 k v).cap ∧ ((Row.n (c + 1) r .e .e .e .e .e .e .e).set 0 k v).get k = .ok v ∧ ∀ j, j < c + 1 → j ≠ k → ∀ u, r.get j = .ok u → ((Row.n (c + 1) r .e .e .e .e .e .e .e).set 0 k v).get j = .ok u
      rw [hc1]
      refine ⟨⟨d + 1, g1⟩, by omega, by omega, g3, fun j hj hne u hu => g4 j (by omega) hne u ?_⟩
      rw [Row.get_n, Nat.div_eq_of_lt hj, Nat.mod_eq_of_lt hj]; exact hu
theorem Row.copy_succ (n : Nat) (d : Row) (o : Nat) (s : Row) (q : Nat) : Row.copy (n + 1) d o s q = match s.get q with
    | .no => .no
    | .ok v => Row.copy n (d.put o v) (o + 1) s (q + 1) := by
  show OA.rec (motive := fun _ => OR) _ _ (s.get q) = _
  cases s.get q <;> rfl
theorem Row.copy_spec : ∀ (n : Nat) (d : Row) (o : Nat) (s : Row) (q : Nat) (r : Row), Row.copy n d o s q = .ok r → d.good → o ≤ d.cap →
    r.good ∧ o + n ≤ r.cap ∧ d.cap ≤ r.cap ∧ (∀ j, j < n → ∃ u, s.get (q + j) = .ok u ∧ r.get (o + j) = .ok u) ∧ ∀ j, j < d.cap → (j < o ∨ o + n ≤ j) → ∀ u, d.get j = .ok u → r.get j = .ok u := by
  intro n
  induction n with
  | zero => intro d o s q r h hg ho; cases h; exact ⟨hg, ho, Nat.le_refl _, fun j hj => by omega, fun _ _ _ _ h => h⟩
  | succ n ih =>
    intro d o s q r h hg ho
    rw [Row.copy_succ] at h
    cases hv : s.get q with
    | no => rw [hv] at h; cases h
    | ok v =>
      rw [hv] at h
      obtain ⟨p1, p2, p3, p4, p5⟩ := Row.put_good hg ho v
      obtain ⟨g1, g2, g3, g4, g5⟩ := ih _ _ _ _ _ h p1 p2
      refine ⟨g1, by omega, by omega, fun j hj => ?_, fun j hj hor u hu => g5 j (by omega) (by omega) u (p5 j hj (by omega) u hu)⟩
      cases j with
      | zero => exact ⟨v, hv, g5 o p2 (by omega) v p4⟩
      | succ j =>
        obtain ⟨u, h1, h2⟩ := g4 j (by omega)
        exact ⟨u, by rw [← h1]; congr 1; omega, by rw [← h2]; congr 1; omega⟩
theorem Row.cut_spec {r : Row} {o n : Nat} {r' : Row} (h : r.cut o n = .ok r') (hg : r.good) (hc : o + n ≤ r.cap) (hd : ∀ j, j < n → ∃ u, r.get (o + j) = .ok u) :
    r'.good ∧ n ≤ r'.cap ∧ ∀ j, j < n → r'.get j = r.get (o + j) := by
  unfold Row.cut at h
  cases hb : Nat.beq o 0 with
  | true =>
    rw [hb] at h
    have : o = 0 := Nat.eq_of_beq_eq_true hb
    subst this
    cases h
    exact ⟨hg, by omega, fun j _ => by rw [Nat.zero_add]⟩
  | false =>
    rw [hb] at h
    obtain ⟨g1, g2, _, g4, _⟩ := Row.copy_spec n .e 0 r o r' h ⟨0, trivial⟩ (Nat.le_refl _)
    refine ⟨g1, by omega, fun j hj => ?_⟩
    obtain ⟨u, h1, h2⟩ := g4 j hj
    rw [h1, ← h2, Nat.zero_add]
theorem rowRep_spec {w : Nat} {z : Row} : ∀ (n : Nat) (r : Row), rowRep n w z = .ok r → r.good ∧ n * w ≤ r.cap ∧ ∀ i, i < n → ∀ j, j < w → ∃ u, z.get j = .ok u ∧ r.get (i * w + j) = .ok u := by
  intro n
  induction n with
  | zero => intro r h; cases h; exact ⟨⟨0, trivial⟩, by omega, fun i hi => by omega⟩
  | succ n ih =>
    intro r h
    change OR.rec (motive := fun _ => OR) .no (fun r => Row.copy w r (n * w) z 0) (rowRep n w z) = _ at h
    cases hr : rowRep n w z with
    | no => rw [hr] at h; cases h
    | ok r0 =>
      rw [hr] at h
      obtain ⟨i1, i2, i3⟩ := ih r0 hr
      obtain ⟨g1, g2, g3, g4, g5⟩ := Row.copy_spec w r0 (n * w) z 0 r h i1 i2
      refine ⟨g1, by rw [Nat.succ_mul]; omega, fun i hi j hj => ?_⟩
      by_cases hin : i = n
      · subst hin
        obtain ⟨u, h1, h2⟩ := g4 j hj
        rw [Nat.zero_add] at h1
        exact ⟨u, h1, h2⟩
      · obtain ⟨u, h1, h2⟩ := i3 i (by omega) j hj
        have hlt : i * w + j < n * w := by
          have : (i + 1) * w ≤ n * w := Nat.mul_le_mul_right _ (by omega)
          rw [Nat.succ_mul] at this; omega
        exact ⟨u, h1, g5 _ (by omega) (.inl hlt) u h2⟩
end Go.Proofs.YtaogloegiffioaaGreatDoor
namespace Go.Proofs.YtaogloegiffioaaGreatDoor
structure Loc where
  r : Nat
  n : Nat
  q : Nat
def Loc.s (_ : Loc) : Nat := 0
@[simp] theorem Loc.s_mk (r n q : Nat) : (Loc.mk r n q).s = 0 := rfl
abbrev Pl := Bid → Option Loc
def strOf (len n : Nat) : ByteArray := ⟨((List.range len).map fun i => UInt8.ofNat (bitsAt 8 len n i 1)).toArray⟩
abbrev maxI : Nat := 9223372036854775807
mutual
def Rv (ρ : Pl) : AV → Value → Prop
  | .i64 n, x => x = .int .i64 (.ofNat n) ∧ n ≤ 9223372036854775807
  | .u64 n, x => x = .int .u64 (.ofNat n) ∧ n < 18446744073709551616
  | .u8 n, x => x = .int .u8 (.ofNat n) ∧ n < 256
  | .u32 n, x => x = .int .u32 (.ofNat n) ∧ n < 4294967296
  | .i32 n, x => x = .int .i32 (.ofNat n) ∧ n ≤ 2147483647
  | .b v, x => x = .bool v
  | .s len n, x => x = .string (strOf len n) ∧ n < 2 ^ (8 * len) ∧ len ≤ 9223372036854775807
  | .lit v, x => x = v
  | .p b o, x => ∃ L, ρ b = some L ∧ x = .pointer (some ⟨L.r, L.s + o, none⟩)
  | .sl b o l c w kn, x => ∃ L c' a, ρ b = some L ∧ x = .slice (some ⟨L.r, a, none⟩) l c' ∧ (a = L.s + o ∨ c' = 0) ∧ l ≤ c ∧ c ≤ c' ∧ (kn = true → c' = c) ∧ c' ≤ maxLen ∧ L.s + o + c' * w ≤ L.n
  | .fn f caps, x => ∃ cs, Rvs ρ caps cs ∧ x = .func (.func f) #[] cs.toArray
  | .mp b, x => ∃ L, ρ b = some L ∧ x = .map (some L.r)
  | .iface t v, x => ∃ u, Rv ρ v u ∧ x = .iface t u
  | .agg n r, x => ∃ cs : List Value, x = .agg cs.toArray ∧ cs.length = n ∧ r.good ∧ n ≤ r.cap ∧ ∀ i y, cs[i]? = some y → Rw ρ r i y
  | .tup l, x => ∃ cs, Rvs ρ l cs ∧ x = .tuple cs.toArray
def Rvs (ρ : Pl) : AVs → List Value → Prop
  | .nil, cs => cs = []
  | .cons a l, cs => ∃ x r, cs = x :: r ∧ Rv ρ a x ∧ Rvs ρ l r
def Rw (ρ : Pl) : Row → Nat → Value → Prop
  | .e, _, _ => False
  | .l a0 a1 a2 a3 a4 a5 a6 a7, k, x => x.oneCell' = true ∧ sel8 k (Rv ρ a0 x) (Rv ρ a1 x) (Rv ρ a2 x) (Rv ρ a3 x) (Rv ρ a4 x) (Rv ρ a5 x) (Rv ρ a6 x) (Rv ρ a7 x)
  | .n p a0 a1 a2 a3 a4 a5 a6 a7, k, x => sel8 (k / p) (Rw ρ a0 (k % p) x) (Rw ρ a1 (k % p) x) (Rw ρ a2 (k % p) x) (Rw ρ a3 (k % p) x) (Rw ρ a4 (k % p) x) (Rw ρ a5 (k % p) x) (Rw ρ a6 (k % p) x) (Rw ρ a7 (k % p) x)
end
abbrev Sub (ρ ρ' : Pl) : Prop := ∀ b L, ρ b = some L → ρ' b = some L
theorem sel8_imp (k : Nat) {p0 q0 p1 q1 p2 q2 p3 q3 p4 q4 p5 q5 p6 q6 p7 q7 : Prop} (h0 : p0 → q0) (h1 : p1 → q1) (h2 : p2 → q2) (h3 : p3 → q3) (h4 : p4 → q4) (h5 : p5 → q5) (h6 : p6 → q6) (h7 : p7 → q7) (h : sel8 k p0 p1 p2 p3 p4 p5 p6 p7) : sel8 k q0 q1 q2 q3 q4 q5 q6 q7 := by
  rw [sel8_eq] at h ⊢
  unfold pick8 at h ⊢
  split at h <;> first | exact h0 h | exact h1 h | exact h2 h | exact h3 h | exact h4 h | exact h5 h | exact h6 h | exact h7 h
mutual
theorem Rv.mono {ρ ρ' : Pl} (h : Sub ρ ρ') : ∀ (v : AV) (x : Value), Rv ρ v x → Rv ρ' v x
  | .i64 _, _, e => e
  | .u64 _, _, e => e
  | .u8 _, _, e => e
  | .u32 _, _, e => e
  | .i32 _, _, e => e
  | .b _, _, e => e
  | .s _ _, _, e => e
  | .lit _, _, e => e
  | .p _ _, _, ⟨L, e, r⟩ => ⟨L, h _ _ e, r⟩
  | .sl .., _, ⟨L, c, a, e, r⟩ => ⟨L, c, a, h _ _ e, r⟩
  | .fn f caps, x, ⟨cs, e, r⟩ => ⟨cs, Rvs.mono h caps cs e, r⟩
  | .mp _, _, ⟨L, e, r⟩ => ⟨L, h _ _ e, r⟩
  | .iface t v, x, ⟨u, e, r⟩ => ⟨u, Rv.mono h v u e, r⟩
  | .agg n r, x, ⟨cs, h1, h2, h3, h4, h5⟩ => ⟨cs, h1, h2, h3, h4, fun i y e => Rw.mono h r i y (h5 i y e)⟩
  | .tup l, x, ⟨cs, e, r⟩ => ⟨cs, Rvs.mono h l cs e, r⟩
theorem Rvs.mono {ρ ρ' : Pl} (h : Sub ρ ρ') : ∀ (l : AVs) (cs : List Value), Rvs ρ l cs → Rvs ρ' l cs
  | .nil, _, e => e
  | .cons a l, _, ⟨x, r, e, h1, h2⟩ => ⟨x, r, e, Rv.mono h a x h1, Rvs.mono h l r h2⟩
theorem Rw.mono {ρ ρ' : Pl} (h : Sub ρ ρ') : ∀ (r : Row) (k : Nat) (x : Value), Rw ρ r k x → Rw ρ' r k x
  | .e, _, _, e => e
  | .l a0 a1 a2 a3 a4 a5 a6 a7, k, x, e => ⟨e.1, sel8_imp k (Rv.mono h a0 x) (Rv.mono h a1 x) (Rv.mono h a2 x) (Rv.mono h a3 x) (Rv.mono h a4 x) (Rv.mono h a5 x) (Rv.mono h a6 x) (Rv.mono h a7 x) e.2⟩
  | .n p a0 a1 a2 a3 a4 a5 a6 a7, k, x, e => sel8_imp (k / p) (Rw.mono h a0 (k % p) x) (Rw.mono h a1 (k % p) x) (Rw.mono h a2 (k % p) x) (Rw.mono h a3 (k % p) x) (Rw.mono h a4 (k % p) x) (Rw.mono h a5 (k % p) x) (Rw.mono h a6 (k % p) x) (Rw.mono h a7 (k % p) x) e
end
theorem Rw_get {ρ : Pl} (r : Row) : ∀ (k : Nat) (x : Value), Rw ρ r k x ↔ ∃ v, r.get k = .ok v ∧ Rv ρ v x ∧ x.oneCell' = true := by
  induction r using Row.ind with
  | he => intro k x; exact ⟨fun h => h.elim, fun ⟨v, e, _⟩ => by rw [Row.get_e] at e; cases e⟩
  | hl a0 a1 a2 a3 a4 a5 a6 a7 =>
    intro k x
    rw [Row.get_l]
    have e : Rw ρ (.l a0 a1 a2 a3 a4 a5 a6 a7) k x = (x.oneCell' = true ∧ Rv ρ (sel8 k a0 a1 a2 a3 a4 a5 a6 a7) x) := congrArg (fun p => x.oneCell' = true ∧ p) (sel8_map (fun v => Rv ρ v x) k a0 a1 a2 a3 a4 a5 a6 a7).symm
    rw [e]
    exact ⟨fun h => ⟨_, rfl, h.2, h.1⟩, fun ⟨v, e, h⟩ => by cases e; exact ⟨h.2, h.1⟩⟩
  | hn p a0 a1 a2 a3 a4 a5 a6 a7 i0 i1 i2 i3 i4 i5 i6 i7 =>
    intro k x
    rw [Row.get_n]
    have e : Rw ρ (.n p a0 a1 a2 a3 a4 a5 a6 a7) k x = Rw ρ (sel8 (k / p) a0 a1 a2 a3 a4 a5 a6 a7) (k % p) x := (sel8_map (fun v => Rw ρ v (k % p) x) (k / p) a0 a1 a2 a3 a4 a5 a6 a7).symm
    rw [e]
    have key : ∀ j, ∀ (k : Nat) (x : Value), Rw ρ (sel8 j a0 a1 a2 a3 a4 a5 a6 a7) k x ↔ ∃ v, (sel8 j a0 a1 a2 a3 a4 a5 a6 a7).get k = .ok v ∧ Rv ρ v x ∧ x.oneCell' = true := fun j => by
      rw [sel8_eq]; unfold pick8; split <;> assumption
    exact key _ _ _
theorem Rvs.len {ρ : Pl} : ∀ {l : AVs} {cs : List Value}, Rvs ρ l cs → cs.length = l.len
  | .nil, _, h => by rw [show _ = [] from h]; rfl
  | .cons _ _, _, ⟨_, _, e, _, h⟩ => by rw [e, List.length_cons, Rvs.len h]; rfl
theorem Rvs.app {ρ : Pl} : ∀ {l m : AVs} {cs ds : List Value}, Rvs ρ l cs → Rvs ρ m ds → Rvs ρ (l.app m) (cs ++ ds)
  | .nil, _, _, _, h, h' => by rw [show _ = [] from h]; exact h'
  | .cons _ _, _, _, _, ⟨x, r, e, h1, h2⟩, h' => ⟨x, r ++ _, by rw [e]; rfl, h1, Rvs.app h2 h'⟩
theorem Rvs.nth {ρ : Pl} : ∀ {l : AVs} {cs : List Value}, Rvs ρ l cs → ∀ (i : Nat), (∃ v x, l.nth i = .ok v ∧ cs[i]? = some x ∧ Rv ρ v x) ∨ (l.nth i = .no ∧ cs[i]? = none)
  | .nil, _, h, i => by rw [show _ = [] from h]; exact .inr ⟨rfl, rfl⟩
  | .cons v _, _, ⟨x, r, e, h1, h2⟩, i => by
    subst e
    cases i with
    | zero => exact .inl ⟨v, x, rfl, rfl, h1⟩
    | succ i =>
      rcases Rvs.nth h2 i with ⟨v', x', a, b, c⟩ | ⟨a, b⟩
      · exact .inl ⟨v', x', a, by simpa using b, c⟩
      · exact .inr ⟨a, by simpa using b⟩
def pkV (k : PK) (n : Nat) : Value := match k with
  | .bool => .bool (Nat.beq n 1)
  | .u8 => .int .u8 (.ofNat n)
  | .i64 => .int .i64 (IntKind.wrap .i64 (.ofNat n))
  | .u64 => .int .u64 (.ofNat n)
  | .i32 => .int .i32 (IntKind.wrap .i32 (.ofNat n))
  | .u32 => .int .u32 (.ofNat n)
def Res (ρ : Pl) : Ents → List MapEntry → Prop
  | .nil, es => es = []
  | .cons k v n l, es => ∃ m r, es = m :: r ∧ Rv ρ k m.key ∧ Rv ρ v m.val ∧ m.born = n ∧ Res ρ l r
theorem Res.mono {ρ ρ' : Pl} (h : Sub ρ ρ') : ∀ (l : Ents) (es : List MapEntry), Res ρ l es → Res ρ' l es
  | .nil, _, e => e
  | .cons _ _ _ l, _, ⟨m, r, e, h1, h2, h3, h4⟩ => ⟨m, r, e, Rv.mono h _ _ h1, Rv.mono h _ _ h2, h3, Res.mono h l r h4⟩
def secB (m : Nat) : List Value := (List.range 64).map fun i => .int .u8 (.ofNat (bitsAt 8 64 m i 1))
def secC (p : Nat × Nat × Bool) : List Value := secB p.1 ++ secB p.2.1 ++ [.bool p.2.2]
def RDev (w : World) (L : Loc) (n : Nat) (now lasts : Row) (calls : Nat) : Prop :=
  L.s = 0 ∧ L.n = 5 ∧ 1 ≤ n ∧ n ≤ 2048 ∧ calls ≤ 1000000 ∧ w.heap[L.r]? = some (.cells #[.slice (some ⟨L.q, 0, none⟩) n n, .int .i64 (.ofNat calls), .bool false, .int .i64 0, .bool false] 149 (0, 0)) ∧
  now.good ∧ n ≤ now.cap ∧ lasts.good ∧ n ≤ lasts.cap ∧
  ∃ l : List (Nat × Nat × Bool), w.heap[L.q]? = some (.cells (l.map secC).flatten.toArray 253 (0, 0)) ∧ l.length = n ∧
    ∀ (i : Nat) (p : Nat × Nat × Bool), l[i]? = some p → now.get i = .ok (.i64 p.1) ∧ lasts.get i = .ok (.i64 p.2.1) ∧ p.1 < 2 ^ 512 ∧ p.2.1 < 2 ^ 512
def RB (ρ : Pl) (w : World) (L : Loc) : Blk → Prop
  | .none => True
  | .cells t n r => L.q = L.r ∧ ∃ arr fr, w.heap[L.r]? = some (.cells arr t fr) ∧ arr.size = L.n ∧ L.s + n ≤ arr.size ∧ (fr = (0, 0) ∨ arr.size ≤ fr.1) ∧ r.good ∧ n ≤ r.cap ∧ ∀ i, i < n → ∃ x, arr[L.s + i]? = some x ∧ Rw ρ r i x
  | .pk k t n m => L.q = L.r ∧ ∃ arr fr, w.heap[L.r]? = some (.cells arr t fr) ∧ arr.size = L.n ∧ L.s + n ≤ arr.size ∧ (fr = (0, 0) ∨ arr.size ≤ fr.1) ∧ m < 2 ^ (pkw k * n) ∧ ∀ i, i < n → arr[L.s + i]? = some (pkV k (bitsAt (pkw k) n m i 1))
  | .map es clock => L.q = L.r ∧ ∃ arr : Array MapEntry, w.heap[L.r]? = some (.map arr clock) ∧ Res ρ es arr.toList
  | .siter len n pos => L.q = L.r ∧ L.s = 0 ∧ w.heap[L.r]? = some (.stringIter (strOf len n) pos) ∧ n < 2 ^ (8 * len) ∧ len ≤ 9223372036854775807
  | .dead => True
  | .dev n now lasts calls => RDev w L n now lasts calls
def Blk.used : Blk → Prop
  | .none => False
  | .dead => False
  | _ => True
theorem RB.mono {ρ ρ' : Pl} {w w' : World} {L : Loc} {k : Blk} (h : RB ρ w L k) (hs : Sub ρ ρ') (hw : w'.heap[L.r]? = w.heap[L.r]?) (hq : w'.heap[L.q]? = w.heap[L.q]?) : RB ρ' w' L k := by
  cases k with
  | none => trivial
  | cells t n r =>
    obtain ⟨e0, arr, fr, e, h1, h2, h3, h4, h5, h6⟩ := h
    exact ⟨e0, arr, fr, hw.trans e, h1, h2, h3, h4, h5, fun i hi => let ⟨x, e, g⟩ := h6 i hi; ⟨x, e, Rw.mono hs _ _ _ g⟩⟩
  | pk k t n m => obtain ⟨e0, arr, fr, e, h1⟩ := h; exact ⟨e0, arr, fr, hw.trans e, h1⟩
  | map es clock => obtain ⟨e0, arr, e, h1⟩ := h; exact ⟨e0, arr, hw.trans e, Res.mono hs _ _ h1⟩
  | siter l n pos => obtain ⟨e0, e1, e, h1⟩ := h; exact ⟨e0, e1, hw.trans e, h1⟩
  | dead => trivial
  | dev n now lasts calls =>
    obtain ⟨h2, h3, h4, h5, h6, h7, h8, h9, h10, h11, cs, h12, h13⟩ := h
    exact ⟨h2, h3, h4, h5, h6, hw.trans h7, h8, h9, h10, h11, cs, hq.trans h12, h13⟩
theorem heap_lt {w : World} {r : Nat} {o : Obj} (e : w.heap[r]? = some o) : r < w.heap.size := by
  rcases Nat.lt_or_ge r w.heap.size with g | g
  · exact g
  · rw [Array.getElem?_eq_none g] at e; cases e
theorem RB.lt {ρ : Pl} {w : World} {L : Loc} {k : Blk} (h : RB ρ w L k) (hk : k.used) : L.r < w.heap.size ∧ L.q < w.heap.size := by
  cases k with
  | none => exact hk.elim
  | cells t n c => obtain ⟨e0, arr, fr, e, _⟩ := h; rw [e0]; exact ⟨heap_lt e, heap_lt e⟩
  | pk k t n m => obtain ⟨e0, arr, fr, e, _⟩ := h; rw [e0]; exact ⟨heap_lt e, heap_lt e⟩
  | map es clock => obtain ⟨e0, arr, e, _⟩ := h; rw [e0]; exact ⟨heap_lt e, heap_lt e⟩
  | siter l n pos => obtain ⟨e0, e1, e, _⟩ := h; rw [e0]; exact ⟨heap_lt e, heap_lt e⟩
  | dead => exact hk.elim
  | dev n now lasts calls =>
    obtain ⟨h2, h3, h4, h5, h6, h7, h8, h9, h10, h11, cs, h12, h13⟩ := h
    exact ⟨heap_lt h7, heap_lt h12⟩
def Live (σ : St) (ρ : Pl) (b : Bid) (L : Loc) : Prop := ρ b = some L ∧ (σ.h.at b).used
def Own (L : Loc) (r : Nat) : Prop := L.r = r ∨ L.q = r
structure RS (ρ : Pl) (σ : St) (w : World) : Prop where
  blk : ∀ b L, ρ b = some L → RB ρ w L (σ.h.at b)
  inj : ∀ b b' L L' r, b ≠ b' → Live σ ρ b L → Live σ ρ b' L' → Own L r → Own L' r → False
  dom : ∀ b L, ρ b = some L → b.num < σ.nx.num
  free : ∀ b, σ.nx.num ≤ b.num → σ.h.at b = .none
theorem RS.lt {ρ : Pl} {σ : St} {w : World} (h : RS ρ σ w) {b : Bid} {L : Loc} (hl : Live σ ρ b L) {r : Nat} (ho : Own L r) : r < w.heap.size := by
  obtain ⟨e, hk⟩ := hl
  have := (h.blk b L e).lt hk
  rcases ho with rfl | rfl
  · exact this.1
  · exact this.2
structure Step (σ : St) (ρ : Pl) (w : World) (σ' : St) (ρ' : Pl) (w' : World) : Prop where
  os : w'.os = w.os
  tape : w'.tape = w.tape
  output : w'.output = w.output
  sub : Sub ρ ρ'
  size : w.heap.size ≤ w'.heap.size
  fr : ∀ r, r < w.heap.size → (∀ b L, Live σ ρ b L → ¬ Own L r) → w'.heap[r]? = w.heap[r]?
  own : ∀ b L r, Live σ' ρ' b L → Own L r → w.heap.size ≤ r ∨ ∃ b0 L0, Live σ ρ b0 L0 ∧ Own L0 r
  next : σ.nx.num ≤ σ'.nx.num
  new : ∀ b L, ρ' b = some L → ρ b = some L ∨ σ.nx.num ≤ b.num
  dorm : ∀ b, b.num < σ.nx.num → ρ b = none → σ'.h.at b = σ.h.at b
theorem Step.refl (σ : St) (ρ : Pl) (w : World) : Step σ ρ w σ ρ w :=
  ⟨rfl, rfl, rfl, fun _ _ h => h, Nat.le_refl _, fun _ _ _ => rfl, fun b L _ h ho => .inr ⟨b, L, h, ho⟩, Nat.le_refl _, fun _ _ h => .inl h, fun _ _ _ => rfl⟩
theorem Step.trans {σ σ1 σ2 : St} {ρ ρ1 ρ2 : Pl} {w w1 w2 : World} (h : Step σ ρ w σ1 ρ1 w1) (g : Step σ1 ρ1 w1 σ2 ρ2 w2) : Step σ ρ w σ2 ρ2 w2 where
  os := g.os.trans h.os
  tape := g.tape.trans h.tape
  output := g.output.trans h.output
  sub := fun b L e => g.sub b L (h.sub b L e)
  size := Nat.le_trans h.size g.size
  fr := fun r hr hn => by
    refine (g.fr r (Nat.lt_of_lt_of_le hr h.size) fun b L hl e => ?_).trans (h.fr r hr hn)
    rcases h.own b L r hl e with h1 | ⟨b0, L0, h1, h2⟩
    · omega
    · exact hn b0 L0 h1 h2
  own := fun b L r hl ho => by
    rcases g.own b L r hl ho with h1 | ⟨b0, L0, h1, h2⟩
    · exact .inl (Nat.le_trans h.size h1)
    · exact h.own b0 L0 r h1 h2
  next := Nat.le_trans h.next g.next
  new := fun b L e => by
    rcases g.new b L e with h1 | h1
    · exact h.new b L h1
    · exact .inr (Nat.le_trans h.next h1)
  dorm := fun b hb hn => by
    refine (g.dorm b (Nat.lt_of_lt_of_le hb h.next) ?_).trans (h.dorm b hb hn)
    cases e : ρ1 b with
    | none => rfl
    | some L =>
      rcases h.new b L e with h1 | h1
      · rw [hn] at h1; cases h1
      · omega
theorem RS.draw {ρ : Pl} {σ : St} {w w' : World} (h : RS ρ σ w) (e : w'.heap = w.heap) : RS ρ σ w' :=
  ⟨fun b L h1 => (h.blk b L h1).mono (fun _ _ h => h) (by rw [e]) (by rw [e]), h.inj, h.dom, h.free⟩
theorem Step.draw {σ : St} {ρ : Pl} {w w' : World} (e : w'.heap = w.heap) (h1 : w'.os = w.os) (h2 : w'.tape = w.tape) (h3 : w'.output = w.output) : Step σ ρ w σ ρ w' :=
  ⟨h1, h2, h3, fun _ _ h => h, by rw [e]; exact Nat.le_refl _, fun _ _ _ => by rw [e], fun b L _ h ho => .inr ⟨b, L, h, ho⟩, Nat.le_refl _, fun _ _ h => .inl h, fun _ _ _ => rfl⟩
def pext (ρ : Pl) (b : Bid) (L : Loc) : Pl := fun b' => if b' = b then some L else ρ b'
theorem ext_sub {ρ : Pl} {b : Bid} {L : Loc} (h : ρ b = none) : Sub ρ (pext ρ b L) := fun b' L' e => by
  unfold pext
  by_cases hb : b' = b
  · subst hb; rw [h] at e; cases e
  · rw [if_neg hb]; exact e
theorem ext_self (ρ : Pl) (b : Bid) (L : Loc) : pext ρ b L b = some L := by simp [pext]
theorem RS.fresh {ρ : Pl} {σ : St} {w : World} (h : RS ρ σ w) : ρ σ.nx = none := by
  cases e : ρ σ.nx with
  | none => rfl
  | some L => exact absurd (h.dom _ _ e) (Nat.lt_irrefl _)
theorem St.new_at (σ : St) (k : Blk) (b : Bid) : (σ.new k).h.at b = if b = σ.nx then k else σ.h.at b := H5.at_put _ _ _ _
theorem St.put_at (σ : St) (b0 : Bid) (k : Blk) (b : Bid) : (σ.put b0 k).h.at b = if b = b0 then k else σ.h.at b := H5.at_put _ _ _ _
theorem new_ok {ρ : Pl} {σ : St} {w w' : World} (h : RS ρ σ w) (hl : notLast σ.nx = true) (k : Blk) (L : Loc)
    (hos : w'.os = w.os) (ht : w'.tape = w.tape) (ho : w'.output = w.output) (hz : w.heap.size ≤ w'.heap.size) (hf : ∀ r, r < w.heap.size → w'.heap[r]? = w.heap[r]?)
    (hr : w.heap.size ≤ L.r) (hq : w.heap.size ≤ L.q) (hk : RB (pext ρ σ.nx L) w' L k) :
    RS (pext ρ σ.nx L) (σ.new k) w' ∧ Step σ ρ w (σ.new k) (pext ρ σ.nx L) w' := by
  have hfr := h.fresh
  have hsub : Sub ρ (pext ρ σ.nx L) := ext_sub hfr
  have hnx : (σ.new k).nx.num = σ.nx.num + 1 := Bid.next_num hl
  have hown : ∀ r, Own L r → w.heap.size ≤ r := fun r h => by rcases h with rfl | rfl <;> assumption
  have hlive : ∀ b L', Live (σ.new k) (pext ρ σ.nx L) b L' → (b = σ.nx ∧ L' = L) ∨ (b ≠ σ.nx ∧ Live σ ρ b L') := by
    rintro b L' ⟨e, hu⟩
    by_cases hb : b = σ.nx
    · subst hb; rw [ext_self] at e; cases e; exact .inl ⟨rfl, rfl⟩
    · unfold pext at e; rw [if_neg hb] at e; rw [St.new_at, if_neg hb] at hu; exact .inr ⟨hb, e, hu⟩
  refine ⟨⟨?_, ?_, ?_, ?_⟩, ⟨hos, ht, ho, hsub, hz, fun r hr _ => hf r hr, ?_, by omega, ?_, ?_⟩⟩
  · intro b L' e
    by_cases hb : b = σ.nx
    · subst hb; rw [ext_self] at e; cases e; rw [St.new_at, if_pos rfl]; exact hk
    · unfold pext at e; rw [if_neg hb] at e
      rw [St.new_at, if_neg hb]
      have hb2 := h.blk b L' e
      generalize hkk : σ.h.at b = k' at *
      by_cases hd : k'.used
      · have := hb2.lt hd
        exact hb2.mono hsub (hf _ this.1) (hf _ this.2)
      · cases k' <;> first | trivial | exact absurd trivial hd
  · intro b b' L1 L2 r hne h1 h2 o1 o2
    rcases hlive b L1 h1 with ⟨e1, e2⟩ | ⟨e1, l1⟩ <;> rcases hlive b' L2 h2 with ⟨g1, g2⟩ | ⟨g1, l2⟩
    · exact absurd (e1.trans g1.symm) hne
    · have := h.lt l2 o2; subst e2; have := hown r o1; omega
    · have := h.lt l1 o1; subst g2; have := hown r o2; omega
    · exact h.inj b b' L1 L2 r hne l1 l2 o1 o2
  · intro b L' e
    rw [hnx]
    by_cases hb : b = σ.nx
    · subst hb; omega
    · unfold pext at e; rw [if_neg hb] at e; have := h.dom b L' e; omega
  · intro b hb
    rw [hnx] at hb
    rw [St.new_at, if_neg (fun e => by subst e; omega)]
    exact h.free b (by omega)
  · intro b L' r hl' ho'
    rcases hlive b L' hl' with ⟨e1, e2⟩ | ⟨e1, l1⟩
    · subst e2; exact .inl (hown r ho')
    · exact .inr ⟨b, L', l1, ho'⟩
  · intro b L' e
    by_cases hb : b = σ.nx
    · subst hb; exact .inr (Nat.le_refl _)
    · unfold pext at e; rw [if_neg hb] at e; exact .inl e
  · intro b hb _
    rw [St.new_at, if_neg (fun e => by subst e; omega)]
theorem put_ok {ρ : Pl} {σ : St} {w w' : World} (h : RS ρ σ w) {b : Bid} {L : Loc} {k : Blk} (hl : Live σ ρ b L) (hk : RB ρ w' L k)
    (hos : w'.os = w.os) (ht : w'.tape = w.tape) (ho : w'.output = w.output) (hz : w.heap.size ≤ w'.heap.size) (hf : ∀ r, r < w.heap.size → ¬ Own L r → w'.heap[r]? = w.heap[r]?) :
    RS ρ (σ.put b k) w' ∧ Step σ ρ w (σ.put b k) ρ w' := by
  have hlive : ∀ b' L', Live (σ.put b k) ρ b' L' → Live σ ρ b' L' := by
    rintro b' L' ⟨e, hu⟩
    by_cases hb : b' = b
    · subst hb; obtain ⟨e2, g⟩ := hl; exact ⟨e, g⟩
    · rw [St.put_at, if_neg hb] at hu; exact ⟨e, hu⟩
  refine ⟨⟨?_, fun b1 b2 L1 L2 r hne h1 h2 => h.inj b1 b2 L1 L2 r hne (hlive _ _ h1) (hlive _ _ h2), h.dom, ?_⟩, ⟨hos, ht, ho, fun _ _ h => h, by omega, ?_, fun b' L' r h' ho' => .inr ⟨b', L', hlive _ _ h', ho'⟩, Nat.le_refl _, fun _ _ h => .inl h, ?_⟩⟩
  · intro b' L' e
    by_cases hb : b' = b
    · subst hb; rw [hl.1] at e; cases e; rw [St.put_at, if_pos rfl]; exact hk
    · rw [St.put_at, if_neg hb]
      have hb2 := h.blk b' L' e
      generalize hkk : σ.h.at b' = k' at *
      by_cases hd : k'.used
      · have hl' : Live σ ρ b' L' := ⟨e, by rw [hkk]; exact hd⟩
        have hlt := hb2.lt hd
        exact hb2.mono (fun _ _ h => h) (hf _ hlt.1 fun o => h.inj b' b L' L _ hb hl' hl (.inl rfl) o) (hf _ hlt.2 fun o => h.inj b' b L' L _ hb hl' hl (.inr rfl) o)
      · cases k' <;> first | trivial | exact absurd trivial hd
  · intro b' hb'
    rw [St.put_at, if_neg (fun e => by subst e; have := h.dom _ _ hl.1; have : σ.nx.num ≤ b'.num := hb'; omega)]
    exact h.free b' hb'
  · intro r hr hn
    exact hf r hr fun o => hn b L hl o
  · intro b' hb' hn
    rw [St.put_at, if_neg (fun e => by subst e; rw [hl.1] at hn; cases hn)]
theorem RS.forget {ρ : Pl} {σ σ' : St} {w : World} (h : RS ρ σ w) (hn : σ'.nx = σ.nx) (hh : ∀ b, σ'.h.at b = σ.h.at b ∨ σ'.h.at b = .none) : RS ρ σ' w where
  blk := fun b L e => by
    rcases hh b with g | g
    · rw [g]; exact h.blk b L e
    · rw [g]; trivial
  inj := fun b b' L L' r hne h1 h2 => by
    have key : ∀ b L, Live σ' ρ b L → Live σ ρ b L := fun b L ⟨e, hu⟩ => ⟨e, by
      rcases hh b with g | g
      · rw [← g]; exact hu
      · rw [g] at hu; exact hu.elim⟩
    exact h.inj b b' L L' r hne (key _ _ h1) (key _ _ h2)
  dom := fun b L e => by rw [hn]; exact h.dom b L e
  free := fun b hb => by
    rw [hn] at hb
    rcases hh b with g | g
    · rw [g]; exact h.free b hb
    · exact g
end Go.Proofs.YtaogloegiffioaaGreatDoor
namespace Go.Proofs.YtaogloegiffioaaGreatDoor
def kEq : IntKind → IntKind → Bool
  | .i64, .i64 => true
  | .u64, .u64 => true
  | .u8, .u8 => true
  | .u32, .u32 => true
  | .i32, .i32 => true
  | _, _ => false
noncomputable def wrapF : IntKind → Int → Int
  | .i64, .ofNat m => Bool.rec (IntKind.wrap .i64 (.ofNat m)) (.ofNat m) (Nat.ble m 9223372036854775807)
  | .u64, .ofNat m => .ofNat (Nat.mod m 18446744073709551616)
  | .u8, .ofNat m => .ofNat (Nat.mod m 256)
  | .u32, .ofNat m => .ofNat (Nat.mod m 4294967296)
  | k, n => k.wrap n
def bitsK : IntKind → Nat
  | .i8 => 8
  | .u8 => 8
  | .i16 => 16
  | .u16 => 16
  | .i32 => 32
  | .u32 => 32
  | .i64 => 64
  | .u64 => 64
def modK : IntKind → Nat → Nat
  | .u8, n => Nat.mod n 256
  | .u32, n => Nat.mod n 4294967296
  | .i64, n => Nat.mod n 18446744073709551616
  | .u64, n => Nat.mod n 18446744073709551616
  | k, n => n % 2 ^ bitsK k
noncomputable def intA (k : IntKind) : BinOp → Int → Int → Option Value
  | .add, .ofNat a, .ofNat b => some (.int k (wrapF k (.ofNat (Nat.add a b))))
  | .add, a, b => some (.int k (wrapF k (a + b)))
  | .sub, .ofNat a, .ofNat b => Bool.rec (some (.int k (k.wrap (.ofNat a - .ofNat b)))) (some (.int k (wrapF k (.ofNat (Nat.sub a b))))) (Nat.ble b a)
  | .sub, a, b => some (.int k (k.wrap (a - b)))
  | .mul, .ofNat a, .ofNat b => some (.int k (wrapF k (.ofNat (Nat.mul a b))))
  | .lss, .ofNat a, .ofNat b => some (.bool (Nat.blt a b))
  | .leq, .ofNat a, .ofNat b => some (.bool (Nat.ble a b))
  | .gtr, .ofNat a, .ofNat b => some (.bool (Nat.blt b a))
  | .geq, .ofNat a, .ofNat b => some (.bool (Nat.ble b a))
  | .eql, .ofNat a, .ofNat b => some (.bool (Nat.beq a b))
  | .neq, .ofNat a, .ofNat b => some (.bool (not (Nat.beq a b)))
  | .rem, .ofNat a, .ofNat b => Bool.rec (some (.int k (.ofNat (Nat.mod a b)))) none (Nat.beq b 0)
  | .quo, .ofNat a, .ofNat b => Bool.rec (some (.int k (wrapF k (.ofNat (Nat.div a b))))) none (Nat.beq b 0)
  | .and, .ofNat a, .ofNat b => some (.int k (wrapF k (.ofNat (Nat.land (modK k a) (modK k b)))))
  | .or, .ofNat a, .ofNat b => some (.int k (wrapF k (.ofNat (Nat.lor (modK k a) (modK k b)))))
  | .xor, .ofNat a, .ofNat b => some (.int k (wrapF k (.ofNat (Nat.xor (modK k a) (modK k b)))))
  | .lss, a, b => some (.bool (decide (a < b)))
  | .leq, a, b => some (.bool (decide (a ≤ b)))
  | .gtr, a, b => some (.bool (decide (a > b)))
  | .geq, a, b => some (.bool (decide (a ≥ b)))
  | .eql, a, b => some (.bool (a == b))
  | .neq, a, b => some (.bool (a != b))
  | _, _, _ => none
noncomputable def shiftA (k : IntKind) : BinOp → Int → Int → Option Value
  | .shr, .ofNat a, .ofNat b => some (.int k (.ofNat (Nat.shiftRight a (Nat.min b (bitsK k)))))
  | .shl, .ofNat a, .ofNat b => some (.int k (wrapF k (.ofNat (Nat.shiftLeft a (Nat.min b (bitsK k))))))
  | _, _, _ => none
theorem wrapF_eq (k : IntKind) (n : Int) : wrapF k n = k.wrap n := by
  unfold wrapF
  split
  · next m =>
    cases h : Nat.ble m 9223372036854775807 with
    | false => rfl
    | true =>
      have h2 : m ≤ 9223372036854775807 := Nat.le_of_ble_eq_true h
      show Int.ofNat m = IntKind.wrap .i64 (Int.ofNat m)
      have e : (Int.ofNat m) % (2 ^ 64 : Int) = Int.ofNat m := by
        have : (2 ^ 64 : Int) = 18446744073709551616 := by decide
        rw [this]; show ((m : Int) % 18446744073709551616) = (m : Int); omega
      simp only [IntKind.wrap, IntKind.bits, IntKind.signed, e]
      rw [if_neg]
      simp
      have : (2 ^ 63 : Int) = 9223372036854775808 := by decide
      omega
  · next m => simp only [IntKind.wrap, IntKind.bits, IntKind.signed, Bool.false_and, Bool.false_eq_true, if_false]; rfl
  · next m => simp only [IntKind.wrap, IntKind.bits, IntKind.signed, Bool.false_and, Bool.false_eq_true, if_false]; rfl
  · next m => simp only [IntKind.wrap, IntKind.bits, IntKind.signed, Bool.false_and, Bool.false_eq_true, if_false]; rfl
  · rfl
theorem bitsK_eq (k : IntKind) : bitsK k = k.bits := by cases k <;> rfl
theorem modK_eq (k : IntKind) (n : Nat) : modK k n = n % 2 ^ k.bits := by cases k <;> rfl
theorem bool_dec (b : Bool) (p : Prop) [Decidable p] (h : b = true ↔ p) : b = decide p := by
  by_cases hp : p
  · rw [h.2 hp]; simp [hp]
  · cases hb : b with
    | false => simp [hp]
    | true => exact absurd (h.1 hb) hp
theorem blt_dec (x y : Nat) : Nat.blt x y = decide (x < y) := bool_dec _ _ (by rw [Nat.blt_eq])
theorem ble_dec (x y : Nat) : Nat.ble x y = decide (x ≤ y) := bool_dec _ _ (by rw [Nat.ble_eq])
theorem beq_dec (x y : Nat) : Nat.beq x y = decide (x = y) := bool_dec _ _ (by rw [Nat.beq_eq])
theorem kEq_ok {k k' : IntKind} (h : kEq k k' = true) : k = k' := by cases k <;> cases k' <;> first | rfl | cases h
theorem toNat_ofInt (n : Nat) (a : Nat) : (BitVec.ofInt n (Int.ofNat a)).toNat = a % 2 ^ n := by
  rw [BitVec.toNat_ofInt]
  show ((a : Int) % ((2 ^ n : Nat) : Int)).toNat = _
  rw [← Int.natCast_emod, Int.toNat_natCast]
theorem intA_ok {P : Program} {k : IntKind} {op : BinOp} {a b : Int} {v : Value} (h : intA k op a b = some v) (w : World) :
    (match op with
    | .add | .sub | .mul => Op.intArith op k a b
    | .quo | .rem => Op.intDiv op k a b
    | .and | .or | .xor | .andNot => Op.intBits op k a b
    | _ => Op.intCmp op a b).run P w = .ok v w := by
  unfold intA at h
  split at h
  · injection h with h; subst h; simp only [Op.intArith, wrapF_eq]; rfl
  · injection h with h; subst h; simp only [Op.intArith, wrapF_eq]; rfl
  · next x y =>
    cases hb : Nat.ble y x with
    | false => rw [hb] at h; injection h with h; subst h; rfl
    | true =>
      rw [hb] at h; injection h with h; subst h
      have hle : y ≤ x := Nat.le_of_ble_eq_true hb
      simp only [Op.intArith, wrapF_eq]
      have e : Int.ofNat x - Int.ofNat y = Int.ofNat (Nat.sub x y) := by
        show ((x : Int) - (y : Int)) = ((x - y : Nat) : Int); omega
      rw [e]; rfl
  · injection h with h; subst h; simp only [Op.intArith]; rfl
  · injection h with h; subst h; simp only [Op.intArith, wrapF_eq]; rfl
  · next x y =>
    injection h with h; subst h
    simp only [Op.intCmp, Sem.run_pure]
    congr 2
    rw [blt_dec]
    congr 1; exact propext (by show ((x : Int) < (y : Int)) ↔ _; omega)
  · next x y =>
    injection h with h; subst h
    simp only [Op.intCmp, Sem.run_pure]
    congr 2
    rw [ble_dec]
    congr 1; exact propext (by show ((x : Int) ≤ (y : Int)) ↔ _; omega)
  · next x y =>
    injection h with h; subst h
    simp only [Op.intCmp, Sem.run_pure]
    congr 2
    rw [blt_dec]
    congr 1; exact propext (by show ((x : Int) > (y : Int)) ↔ _; omega)
  · next x y =>
    injection h with h; subst h
    simp only [Op.intCmp, Sem.run_pure]
    congr 2
    rw [ble_dec]
    congr 1; exact propext (by show ((x : Int) ≥ (y : Int)) ↔ _; omega)
  · next x y =>
    injection h with h; subst h
    simp only [Op.intCmp, Sem.run_pure]
    congr 2
    rw [beq_dec]
    show decide (Int.ofNat x = Int.ofNat y) = _
    congr 1; exact propext (by show ((x : Int) = (y : Int)) ↔ _; omega)
  · next x y =>
    injection h with h; subst h
    simp only [Op.intCmp, Sem.run_pure]
    congr 2
    rw [beq_dec]
    show (!decide (Int.ofNat x = Int.ofNat y)) = _
    congr 2; exact propext (by show ((x : Int) = (y : Int)) ↔ _; omega)
  · next x y =>
    cases hb : Nat.beq y 0 with
    | true => rw [hb] at h; cases h
    | false =>
      rw [hb] at h; injection h with h; subst h
      have h0 : y ≠ 0 := fun e => by subst e; cases hb
      simp only [Op.intDiv]
      rw [if_neg (by show ¬ ((y : Int) = 0); omega)]
      rfl
  · next x y =>
    cases hb : Nat.beq y 0 with
    | true => rw [hb] at h; cases h
    | false =>
      rw [hb] at h; injection h with h; subst h
      have h0 : y ≠ 0 := fun e => by subst e; cases hb
      simp only [Op.intDiv]
      rw [if_neg (by show ¬ ((y : Int) = 0); omega), wrapF_eq]
      rfl
  · next x y =>
    injection h with h; subst h
    simp only [Op.intBits, Sem.run_pure, wrapF_eq, modK_eq]
    rw [BitVec.toNat_and, toNat_ofInt, toNat_ofInt]; rfl
  · next x y =>
    injection h with h; subst h
    simp only [Op.intBits, Sem.run_pure, wrapF_eq, modK_eq]
    rw [BitVec.toNat_or, toNat_ofInt, toNat_ofInt]; rfl
  · next x y =>
    injection h with h; subst h
    simp only [Op.intBits, Sem.run_pure, wrapF_eq, modK_eq]
    rw [BitVec.toNat_xor, toNat_ofInt, toNat_ofInt]; rfl
  all_goals first | (injection h with h; subst h; rfl) | cases h
theorem shiftA_ok {P : Program} {k k' : IntKind} {op : BinOp} {a b : Int} {v : Value} (h : shiftA k op a b = some v) (w : World) : (Op.shift op k a k' b).run P w = .ok v w := by
  unfold shiftA at h
  split at h
  · next x y =>
    injection h with h; subst h
    unfold Op.shift
    rw [if_neg (by show ¬ ((y : Int) < 0); omega)]
    simp only [Sem.run_pure]
    rw [bitsK_eq]
    show Result.ok (Value.int k ((Int.ofNat x).fdiv (2 ^ (min y k.bits)))) w = _
    congr 2
    rw [show (2 ^ (min y k.bits) : Int) = ((2 ^ (min y k.bits) : Nat) : Int) from by norm_cast]
    rw [show (Int.ofNat x) = (x : Int) from rfl, Int.fdiv_eq_ediv_of_nonneg _ (Int.natCast_nonneg _), ← Int.natCast_ediv]
    show ((_ : Nat) : Int) = ((_ : Nat) : Int)
    congr 1
    exact (Nat.shiftRight_eq_div_pow x (min y k.bits)).symm
  · next x y =>
    injection h with h; subst h
    unfold Op.shift
    rw [if_neg (by show ¬ ((y : Int) < 0); omega)]
    simp only [Sem.run_pure, wrapF_eq]
    rw [bitsK_eq]
    show Result.ok (Value.int k (k.wrap (Int.ofNat x * 2 ^ (min y k.bits)))) w = _
    congr 3
    rw [show (2 ^ (min y k.bits) : Int) = ((2 ^ (min y k.bits) : Nat) : Int) from by norm_cast]
    show ((x : Int) * _) = ((_ : Nat) : Int)
    rw [← Int.natCast_mul]
    congr 1
    exact (Nat.shiftLeft_eq x (min y k.bits)).symm
  · cases h
end Go.Proofs.YtaogloegiffioaaGreatDoor
namespace Go.Proofs.YtaogloegiffioaaGreatDoor
theorem onI64_or {α : Type} {x : AV} {k} {z r : α} (h : onI64 x k z = r) : (∃ n, x = .i64 n ∧ k n = r) ∨ z = r := by
  cases x <;> first | exact .inl ⟨_, rfl, h⟩ | exact .inr h
theorem onI64_some {α : Type} {x : AV} {k} {z r : α} (h : onI64 x k z = r) (hz : z ≠ r) : ∃ n, x = .i64 n ∧ k n = r := (onI64_or h).resolve_right hz
theorem onU64_or {α : Type} {x : AV} {k} {z r : α} (h : onU64 x k z = r) : (∃ n, x = .u64 n ∧ k n = r) ∨ z = r := by
  cases x <;> first | exact .inl ⟨_, rfl, h⟩ | exact .inr h
theorem onU64_some {α : Type} {x : AV} {k} {z r : α} (h : onU64 x k z = r) (hz : z ≠ r) : ∃ n, x = .u64 n ∧ k n = r := (onU64_or h).resolve_right hz
theorem onU8_or {α : Type} {x : AV} {k} {z r : α} (h : onU8 x k z = r) : (∃ n, x = .u8 n ∧ k n = r) ∨ z = r := by
  cases x <;> first | exact .inl ⟨_, rfl, h⟩ | exact .inr h
theorem onU8_some {α : Type} {x : AV} {k} {z r : α} (h : onU8 x k z = r) (hz : z ≠ r) : ∃ n, x = .u8 n ∧ k n = r := (onU8_or h).resolve_right hz
theorem onU32_or {α : Type} {x : AV} {k} {z r : α} (h : onU32 x k z = r) : (∃ n, x = .u32 n ∧ k n = r) ∨ z = r := by
  cases x <;> first | exact .inl ⟨_, rfl, h⟩ | exact .inr h
theorem onU32_some {α : Type} {x : AV} {k} {z r : α} (h : onU32 x k z = r) (hz : z ≠ r) : ∃ n, x = .u32 n ∧ k n = r := (onU32_or h).resolve_right hz
theorem onI32_or {α : Type} {x : AV} {k} {z r : α} (h : onI32 x k z = r) : (∃ n, x = .i32 n ∧ k n = r) ∨ z = r := by
  cases x <;> first | exact .inl ⟨_, rfl, h⟩ | exact .inr h
theorem onI32_some {α : Type} {x : AV} {k} {z r : α} (h : onI32 x k z = r) (hz : z ≠ r) : ∃ n, x = .i32 n ∧ k n = r := (onI32_or h).resolve_right hz
theorem onB_or {α : Type} {x : AV} {k} {z r : α} (h : onB x k z = r) : (∃ v, x = .b v ∧ k v = r) ∨ z = r := by
  cases x <;> first | exact .inl ⟨_, rfl, h⟩ | exact .inr h
theorem onB_some {α : Type} {x : AV} {k} {z r : α} (h : onB x k z = r) (hz : z ≠ r) : ∃ v, x = .b v ∧ k v = r := (onB_or h).resolve_right hz
theorem onS_or {α : Type} {x : AV} {k} {z r : α} (h : onS x k z = r) : (∃ l n, x = .s l n ∧ k l n = r) ∨ z = r := by
  cases x <;> first | exact .inl ⟨_, _, rfl, h⟩ | exact .inr h
theorem onS_some {α : Type} {x : AV} {k} {z r : α} (h : onS x k z = r) (hz : z ≠ r) : ∃ l n, x = .s l n ∧ k l n = r := (onS_or h).resolve_right hz
theorem onLit_or {α : Type} {x : AV} {k} {z r : α} (h : onLit x k z = r) : (∃ v, x = .lit v ∧ k v = r) ∨ z = r := by
  cases x <;> first | exact .inl ⟨_, rfl, h⟩ | exact .inr h
theorem onLit_some {α : Type} {x : AV} {k} {z r : α} (h : onLit x k z = r) (hz : z ≠ r) : ∃ v, x = .lit v ∧ k v = r := (onLit_or h).resolve_right hz
theorem onP_or {α : Type} {x : AV} {k} {z r : α} (h : onP x k z = r) : (∃ b o, x = .p b o ∧ k b o = r) ∨ z = r := by
  cases x <;> first | exact .inl ⟨_, _, rfl, h⟩ | exact .inr h
theorem onP_some {α : Type} {x : AV} {k} {z r : α} (h : onP x k z = r) (hz : z ≠ r) : ∃ b o, x = .p b o ∧ k b o = r := (onP_or h).resolve_right hz
theorem onSl_or {α : Type} {x : AV} {k} {z r : α} (h : onSl x k z = r) : (∃ b o l c w kn, x = .sl b o l c w kn ∧ k b o l c w kn = r) ∨ z = r := by
  cases x <;> first | exact .inl ⟨_, _, _, _, _, _, rfl, h⟩ | exact .inr h
theorem onSl_some {α : Type} {x : AV} {k} {z r : α} (h : onSl x k z = r) (hz : z ≠ r) : ∃ b o l c w kn, x = .sl b o l c w kn ∧ k b o l c w kn = r := (onSl_or h).resolve_right hz
theorem onFn_or {α : Type} {x : AV} {k} {z r : α} (h : onFn x k z = r) : (∃ f c, x = .fn f c ∧ k f c = r) ∨ z = r := by
  cases x <;> first | exact .inl ⟨_, _, rfl, h⟩ | exact .inr h
theorem onFn_some {α : Type} {x : AV} {k} {z r : α} (h : onFn x k z = r) (hz : z ≠ r) : ∃ f c, x = .fn f c ∧ k f c = r := (onFn_or h).resolve_right hz
theorem onMp_or {α : Type} {x : AV} {k} {z r : α} (h : onMp x k z = r) : (∃ b, x = .mp b ∧ k b = r) ∨ z = r := by
  cases x <;> first | exact .inl ⟨_, rfl, h⟩ | exact .inr h
theorem onMp_some {α : Type} {x : AV} {k} {z r : α} (h : onMp x k z = r) (hz : z ≠ r) : ∃ b, x = .mp b ∧ k b = r := (onMp_or h).resolve_right hz
theorem onIface_or {α : Type} {x : AV} {k} {z r : α} (h : onIface x k z = r) : (∃ t v, x = .iface t v ∧ k t v = r) ∨ z = r := by
  cases x <;> first | exact .inl ⟨_, _, rfl, h⟩ | exact .inr h
theorem onIface_some {α : Type} {x : AV} {k} {z r : α} (h : onIface x k z = r) (hz : z ≠ r) : ∃ t v, x = .iface t v ∧ k t v = r := (onIface_or h).resolve_right hz
theorem onAgg_or {α : Type} {x : AV} {k} {z r : α} (h : onAgg x k z = r) : (∃ n q, x = .agg n q ∧ k n q = r) ∨ z = r := by
  cases x <;> first | exact .inl ⟨_, _, rfl, h⟩ | exact .inr h
theorem onAgg_some {α : Type} {x : AV} {k} {z r : α} (h : onAgg x k z = r) (hz : z ≠ r) : ∃ n q, x = .agg n q ∧ k n q = r := (onAgg_or h).resolve_right hz
theorem onTup_or {α : Type} {x : AV} {k} {z r : α} (h : onTup x k z = r) : (∃ l, x = .tup l ∧ k l = r) ∨ z = r := by
  cases x <;> first | exact .inl ⟨_, rfl, h⟩ | exact .inr h
theorem onTup_some {α : Type} {x : AV} {k} {z r : α} (h : onTup x k z = r) (hz : z ≠ r) : ∃ l, x = .tup l ∧ k l = r := (onTup_or h).resolve_right hz
theorem onCells_or {α : Type} {x : Blk} {k} {z r : α} (h : onCells x k z = r) : (∃ t n q, x = .cells t n q ∧ k t n q = r) ∨ z = r := by
  cases x <;> first | exact .inl ⟨_, _, _, rfl, h⟩ | exact .inr h
theorem onCells_some {α : Type} {x : Blk} {k} {z r : α} (h : onCells x k z = r) (hz : z ≠ r) : ∃ t n q, x = .cells t n q ∧ k t n q = r := by
  cases x <;> first | exact ⟨_, _, _, rfl, h⟩ | exact absurd h hz
theorem onPk_or {α : Type} {x : Blk} {k} {z r : α} (h : onPk x k z = r) : (∃ κ t n m, x = .pk κ t n m ∧ k κ t n m = r) ∨ z = r := by
  cases x <;> first | exact .inl ⟨_, _, _, _, rfl, h⟩ | exact .inr h
theorem onPk_some {α : Type} {x : Blk} {k} {z r : α} (h : onPk x k z = r) (hz : z ≠ r) : ∃ κ t n m, x = .pk κ t n m ∧ k κ t n m = r := by
  cases x <;> first | exact ⟨_, _, _, _, rfl, h⟩ | exact absurd h hz
theorem onMap_or {α : Type} {x : Blk} {k} {z r : α} (h : onMap x k z = r) : (∃ e c, x = .map e c ∧ k e c = r) ∨ z = r := by
  cases x <;> first | exact .inl ⟨_, _, rfl, h⟩ | exact .inr h
theorem onMap_some {α : Type} {x : Blk} {k} {z r : α} (h : onMap x k z = r) (hz : z ≠ r) : ∃ e c, x = .map e c ∧ k e c = r := by
  cases x <;> first | exact ⟨_, _, rfl, h⟩ | exact absurd h hz
theorem onSiter_or {α : Type} {x : Blk} {k} {z r : α} (h : onSiter x k z = r) : (∃ l n q, x = .siter l n q ∧ k l n q = r) ∨ z = r := by
  cases x <;> first | exact .inl ⟨_, _, _, rfl, h⟩ | exact .inr h
theorem onSiter_some {α : Type} {x : Blk} {k} {z r : α} (h : onSiter x k z = r) (hz : z ≠ r) : ∃ l n q, x = .siter l n q ∧ k l n q = r := by
  cases x <;> first | exact ⟨_, _, _, rfl, h⟩ | exact absurd h hz
theorem onDev_or {α : Type} {x : Blk} {k} {z r : α} (h : onDev x k z = r) : (∃ n a b c, x = .dev n a b c ∧ k n a b c = r) ∨ z = r := by
  cases x <;> first | exact .inl ⟨_, _, _, _, rfl, h⟩ | exact .inr h
theorem onDev_some {α : Type} {x : Blk} {k} {z r : α} (h : onDev x k z = r) (hz : z ≠ r) : ∃ n a b c, x = .dev n a b c ∧ k n a b c = r := by
  cases x <;> first | exact ⟨_, _, _, _, rfl, h⟩ | exact absurd h hz
theorem onCP_some {α : Type} {x : Blk} {k} {g} {z r : α} (h : onCP x k g z = r) (hz : z ≠ r) : (∃ t n q, x = .cells t n q ∧ k t n q = r) ∨ (∃ κ t n m, x = .pk κ t n m ∧ g κ t n m = r) := by
  cases x <;> first | exact .inl ⟨_, _, _, rfl, h⟩ | exact .inr ⟨_, _, _, _, rfl, h⟩ | exact absurd h hz
theorem onNum_or {α : Type} {x : AV} {k} {z r : α} (h : onNum x k z = r) : (∃ n, (x = .i64 n ∨ x = .u64 n ∨ x = .u8 n ∨ x = .u32 n ∨ x = .i32 n) ∧ k n = r) ∨ z = r := by
  cases x <;> first | exact .inl ⟨_, .inl rfl, h⟩ | exact .inl ⟨_, .inr (.inl rfl), h⟩ | exact .inl ⟨_, .inr (.inr (.inl rfl)), h⟩ | exact .inl ⟨_, .inr (.inr (.inr (.inl rfl))), h⟩ | exact .inl ⟨_, .inr (.inr (.inr (.inr rfl))), h⟩ | exact .inr h
theorem Rv_num {ρ : Pl} {x : AV} {n : Nat} {X : Value} (h : Rv ρ x X) (hx : x = .i64 n ∨ x = .u64 n ∨ x = .u8 n ∨ x = .u32 n ∨ x = .i32 n) : ∃ k, X = .int k (.ofNat n) := by
  rcases hx with rfl | rfl | rfl | rfl | rfl <;> exact ⟨_, h.1⟩
theorem OA.ne {v : AV} : (OA.no : OA) ≠ .ok v := fun h => by cases h
theorem RA.ne {v : AV} {σ : St} : (RA.no : RA) ≠ .ok v σ := fun h => by cases h
theorem NB.ne {k : Blk} {f : Bid → AV} : (NB.no : NB) ≠ .ok k f := fun h => by cases h
theorem OR.ne {r : Row} : (OR.no : OR) ≠ .ok r := fun h => by cases h
theorem ifO_ok {c : Bool} {x : OA} {v : AV} (h : ifO c x = .ok v) : c = true ∧ x = .ok v := by
  cases c with
  | false => cases h
  | true => exact ⟨rfl, h⟩
theorem ifN_ok {c : Bool} {x : NB} {k : Blk} {f : Bid → AV} (h : ifN c x = .ok k f) : c = true ∧ x = .ok k f := by
  cases c with
  | false => cases h
  | true => exact ⟨rfl, h⟩
theorem boolRA_ok {c : Bool} {x : RA} {v : AV} {σ : St} (h : Bool.rec (motive := fun _ => RA) .no x c = .ok v σ) : c = true ∧ x = .ok v σ := by
  cases c with
  | false => cases h
  | true => exact ⟨rfl, h⟩
theorem boolOA_ok {c : Bool} {x : OA} {v : AV} (h : Bool.rec (motive := fun _ => OA) .no x c = .ok v) : c = true ∧ x = .ok v := ifO_ok h
theorem bind_ok {x : OA} {k : AV → OA} {v : AV} (h : OA.bind x k = .ok v) : ∃ u, x = .ok u ∧ k u = .ok v := by
  cases x with
  | no => cases h
  | ok u => exact ⟨u, rfl, h⟩
theorem RAofN_ok {x : OA} {k : AV → RA} {v : AV} {σ : St} (h : RAofN x k = .ok v σ) : ∃ u, x = .ok u ∧ k u = .ok v σ := by
  cases x with
  | no => cases h
  | ok u => exact ⟨u, rfl, h⟩
theorem orRA_ok {x : OR} {k : Row → RA} {v : AV} {σ : St} (h : OR.rec (motive := fun _ => RA) .no k x = .ok v σ) : ∃ u, x = .ok u ∧ k u = .ok v σ := by
  cases x with
  | no => cases h
  | ok u => exact ⟨u, rfl, h⟩
theorem orNB_ok {x : OR} {k : Row → NB} {b : Blk} {f : Bid → AV} (h : OR.rec (motive := fun _ => NB) .no k x = .ok b f) : ∃ u, x = .ok u ∧ k u = .ok b f := by
  cases x with
  | no => cases h
  | ok u => exact ⟨u, rfl, h⟩
theorem aggO_ok {n : Nat} {r : OR} {v : AV} (h : aggO n r = .ok v) : ∃ q, r = .ok q ∧ v = .agg n q := by
  cases r with
  | no => cases h
  | ok u => cases h; exact ⟨u, rfl, rfl⟩
theorem val_ok {ρ : Pl} {x : AV} {X V : Value} (h : Rv ρ x X) (hv : x.val = some V) : X = V := by
  cases x <;> first | (cases hv; done) | (injection hv with hv; subst hv; first | exact h.1 | exact h)
def lim : IntKind → Nat
  | .i64 => 9223372036854775808
  | .u64 => 18446744073709551616
  | .u8 => 256
  | .u32 => 4294967296
  | .i32 => 2147483648
  | _ => 0
theorem wrap_in {k : IntKind} {n : Nat} (h : n < lim k) : k.wrap (.ofNat n) = .ofNat n := by
  have p8 : (2 ^ 8 : Int) = 256 := by decide
  have p32 : (2 ^ 32 : Int) = 4294967296 := by decide
  have p64 : (2 ^ 64 : Int) = 18446744073709551616 := by decide
  have p31 : (2 ^ 31 : Int) = 2147483648 := by decide
  have p63 : (2 ^ 63 : Int) = 9223372036854775808 := by decide
  cases k
  case i8 => exact absurd h (Nat.not_lt_zero _)
  case i16 => exact absurd h (Nat.not_lt_zero _)
  case u16 => exact absurd h (Nat.not_lt_zero _)
  case i32 =>
    have h : n < 2147483648 := h
    show (if (true && decide ((n : Int) % (2 ^ 32 : Int) ≥ (2 ^ 31 : Int))) = true then (n : Int) % (2 ^ 32 : Int) - (2 ^ 32 : Int) else (n : Int) % (2 ^ 32 : Int)) = (n : Int)
    rw [p32, p31, if_neg (by simp; omega)]; omega
  case i64 =>
    have h : n < 9223372036854775808 := h
    show (if (true && decide ((n : Int) % (2 ^ 64 : Int) ≥ (2 ^ 63 : Int))) = true then (n : Int) % (2 ^ 64 : Int) - (2 ^ 64 : Int) else (n : Int) % (2 ^ 64 : Int)) = (n : Int)
    rw [p64, p63, if_neg (by simp; omega)]; omega
  case u8 =>
    have h : n < 256 := h
    show (n : Int) % (2 ^ 8 : Int) = (n : Int)
    rw [p8]; omega
  case u32 =>
    have h : n < 4294967296 := h
    show (n : Int) % (2 ^ 32 : Int) = (n : Int)
    rw [p32]; omega
  case u64 =>
    have h : n < 18446744073709551616 := h
    show (n : Int) % (2 ^ 64 : Int) = (n : Int)
    rw [p64]; omega
theorem modK_in {k : IntKind} {n : Nat} (h : n < lim k) : modK k n = n := by
  cases k <;> simp only [lim] at h <;> first | omega | exact Nat.mod_eq_of_lt h | exact Nat.mod_eq_of_lt (by show n < 2 ^ 32; omega) | exact Nat.mod_eq_of_lt (by show n < 18446744073709551616; omega)
theorem normV_ok {ρ : Pl} (x : Value) : Rv ρ (normV x) x := by
  unfold normV
  split
  · next k n =>
    unfold normI
    split
    · cases h : Nat.ble n 9223372036854775807 with
      | false => rfl
      | true => exact ⟨rfl, Nat.le_of_ble_eq_true h⟩
    · cases h : Nat.ble n 18446744073709551615 with
      | false => rfl
      | true => exact ⟨rfl, Nat.lt_succ_of_le (Nat.le_of_ble_eq_true h)⟩
    · cases h : Nat.ble n 255 with
      | false => rfl
      | true => exact ⟨rfl, Nat.lt_succ_of_le (Nat.le_of_ble_eq_true h)⟩
    · cases h : Nat.ble n 4294967295 with
      | false => rfl
      | true => exact ⟨rfl, Nat.lt_succ_of_le (Nat.le_of_ble_eq_true h)⟩
    · cases h : Nat.ble n 2147483647 with
      | false => rfl
      | true => exact ⟨rfl, Nat.le_of_ble_eq_true h⟩
    · rfl
  · rfl
  · rfl
theorem w64_ok {ρ : Pl} {r : Nat} {v : AV} (h : w64 r = .ok v) : Rv ρ v (.int .i64 (IntKind.wrap .i64 (.ofNat r))) := by
  unfold w64 at h
  cases hb : Nat.ble r 9223372036854775807 with
  | false => rw [hb] at h; cases h; exact normV_ok _
  | true =>
    rw [hb] at h; cases h
    have := Nat.le_of_ble_eq_true hb
    exact ⟨by rw [wrap_in (show r < lim .i64 by show r < 9223372036854775808; omega)], this⟩
theorem w32_ok {ρ : Pl} {r : Nat} {v : AV} (h : w32 r = .ok v) : Rv ρ v (.int .i32 (IntKind.wrap .i32 (.ofNat r))) := by
  unfold w32 at h
  cases hb : Nat.ble r 2147483647 with
  | false => rw [hb] at h; cases h; exact normV_ok _
  | true =>
    rw [hb] at h; cases h
    have := Nat.le_of_ble_eq_true hb
    exact ⟨by rw [wrap_in (show r < lim .i32 by show r < 2147483648; omega)], this⟩
theorem wu64_ok {ρ : Pl} {r : Nat} {v : AV} (h : wu64 r = .ok v) : Rv ρ v (.int .u64 (IntKind.wrap .u64 (.ofNat r))) := by
  cases h
  exact ⟨by rw [← wrapF_eq]; rfl, Nat.mod_lt _ (by omega)⟩
theorem wu8_ok {ρ : Pl} {r : Nat} {v : AV} (h : wu8 r = .ok v) : Rv ρ v (.int .u8 (IntKind.wrap .u8 (.ofNat r))) := by
  cases h
  exact ⟨by rw [← wrapF_eq]; rfl, Nat.mod_lt _ (by omega)⟩
theorem wu32_ok {ρ : Pl} {r : Nat} {v : AV} (h : wu32 r = .ok v) : Rv ρ v (.int .u32 (IntKind.wrap .u32 (.ofNat r))) := by
  cases h
  exact ⟨by rw [← wrapF_eq]; rfl, Nat.mod_lt _ (by omega)⟩
theorem bin_int {P : Program} {k : IntKind} {op : BinOp} {a b : Int} {v : Value} {t : TypeId} (h : intA k op a b = some v) (w : World) (h1 : op ≠ .shl) (h2 : op ≠ .shr) : (binOp op t (.int k a) (.int k b)).run P w = .ok v w := by
  have g := intA_ok (P := P) h w
  cases op
  case shl => exact absurd rfl h1
  case shr => exact absurd rfl h2
  all_goals
    unfold binOp
    simpa using g
theorem bin_sh {P : Program} {k k' : IntKind} {op : BinOp} {a b : Int} {v : Value} {t : TypeId} (h : shiftA k op a b = some v) (w : World) (ho : op = .shl ∨ op = .shr) : (binOp op t (.int k a) (.int k' b)).run P w = .ok v w := by
  rcases ho with rfl | rfl <;> exact shiftA_ok (k' := k') h w
theorem guard_int {P : Program} (op : BinOp) (t : TypeId) (ox oy : Operand) (k k' : IntKind) (a b : Int) (w : World) : (eqGuard op t ox oy (.int k a) (.int k' b)).run P w = .ok () w := by cases op <;> simp [eqGuard]
def Bin (P : Program) (ρ : Pl) (op : BinOp) (X Y : Value) (v : AV) : Prop := ∀ (t : TypeId) (ox oy : Operand) (w : World), ∃ z, (do eqGuard op t ox oy X Y; binOp op t X Y : Sem Value).run P w = .ok z w ∧ Rv ρ v z
theorem Bin.int {P : Program} {ρ : Pl} {op : BinOp} {k : IntKind} {a b : Int} {v : AV} {z : Value} (h : intA k op a b = some z) (h1 : op ≠ .shl) (h2 : op ≠ .shr) (hv : Rv ρ v z) : Bin P ρ op (.int k a) (.int k b) v :=
  fun t ox oy w => ⟨z, by simp [guard_int, bin_int h w h1 h2], hv⟩
theorem Bin.sh {P : Program} {ρ : Pl} {op : BinOp} {k k' : IntKind} {a b : Int} {v : AV} {z : Value} (h : shiftA k op a b = some z) (ho : op = .shl ∨ op = .shr) (hv : Rv ρ v z) : Bin P ρ op (.int k a) (.int k' b) v :=
  fun t ox oy w => ⟨z, by simp [guard_int, bin_sh h w ho], hv⟩
theorem intV_ok {P : Program} {k : IntKind} {op : BinOp} {a b : Int} {z : Value} (h : intV k op a b = some z) {t : TypeId} (w : World) : (binOp op t (.int k a) (.int k b)).run P w = .ok z w := by
  unfold intV at h
  cases op <;> first | (cases h; done) | (injection h with h; subst h; simp [binOp, Op.intArith, Op.intCmp]; done) | (injection h with h; subst h; simp [binOp, Op.intArith, Op.intCmp]; rfl)
theorem kEqB_ok {k k' : IntKind} (h : kEqB k k' = true) : k = k' := by cases k <;> cases k' <;> first | rfl | cases h
theorem binG_ok {P : Program} {ρ : Pl} {op : BinOp} {x y v : AV} {X Y : Value} (hx : Rv ρ x X) (hy : Rv ρ y Y) (h : binG op x y = .ok v) : Bin P ρ op X Y v := by
  unfold binG at h
  cases h1 : x.val with
  | none => rw [h1] at h; cases h
  | some V =>
    cases h2 : y.val with
    | none => rw [h1, h2] at h; cases V <;> cases h
    | some W =>
      rw [h1, h2] at h
      have e1 := val_ok hx h1
      have e2 := val_ok hy h2
      subst e1 e2
      unfold binV at h
      split at h
      · next k a k' b e3 e4 =>
        injection e3 with e3; injection e4 with e4; subst e3 e4
        split at h
        · next z h3 h4 =>
          cases h
          have := kEqB_ok h3
          subst this
          exact fun t ox oy w => ⟨z, by simp [guard_int, intV_ok h4 w], normV_ok z⟩
        · cases h
      · cases h
theorem in_i64 {n : Nat} (h : n ≤ 9223372036854775807) : n < lim .i64 := by show n < 9223372036854775808; omega
theorem add_i64_ok {P : Program} {ρ : Pl} {x y : G} {T : Tm} {σ : St} {v : AV} {X Y : Value} (hx : Rv ρ (x T) X) (hy : Rv ρ (y T) Y) (h : add_i64 x y T σ = .ok v) : Bin P ρ .add X Y v := by
  unfold add_i64 at h
  rcases onI64_or h with ⟨a, e1, h⟩ | h
  · rcases onI64_or h with ⟨b, e2, h⟩ | h
    · rw [e1] at hx; rw [e2] at hy
      obtain ⟨rfl, ha⟩ := hx
      obtain ⟨rfl, hb⟩ := hy
      have ha' := in_i64 ha
      have hb' := in_i64 hb
      refine Bin.int (z := .int .i64 (wrapF .i64 (.ofNat (Nat.add a b)))) rfl (by decide) (by decide) ?_
      rw [wrapF_eq]; exact w64_ok h
    · exact binG_ok hx hy h
  · exact binG_ok hx hy h
theorem mul_i64_ok {P : Program} {ρ : Pl} {x y : G} {T : Tm} {σ : St} {v : AV} {X Y : Value} (hx : Rv ρ (x T) X) (hy : Rv ρ (y T) Y) (h : mul_i64 x y T σ = .ok v) : Bin P ρ .mul X Y v := by
  unfold mul_i64 at h
  rcases onI64_or h with ⟨a, e1, h⟩ | h
  · rcases onI64_or h with ⟨b, e2, h⟩ | h
    · rw [e1] at hx; rw [e2] at hy
      obtain ⟨rfl, ha⟩ := hx
      obtain ⟨rfl, hb⟩ := hy
      have ha' := in_i64 ha
      have hb' := in_i64 hb
      refine Bin.int (z := .int .i64 (wrapF .i64 (.ofNat (Nat.mul a b)))) rfl (by decide) (by decide) ?_
      rw [wrapF_eq]; exact w64_ok h
    · exact binG_ok hx hy h
  · exact binG_ok hx hy h
theorem sub_i64_ok {P : Program} {ρ : Pl} {x y : G} {T : Tm} {σ : St} {v : AV} {X Y : Value} (hx : Rv ρ (x T) X) (hy : Rv ρ (y T) Y) (h : sub_i64 x y T σ = .ok v) : Bin P ρ .sub X Y v := by
  unfold sub_i64 at h
  rcases onI64_or h with ⟨a, e1, h⟩ | h
  · rcases onI64_or h with ⟨b, e2, h⟩ | h
    · rw [e1] at hx; rw [e2] at hy
      obtain ⟨rfl, ha⟩ := hx
      obtain ⟨rfl, hb⟩ := hy
      have ha' := in_i64 ha
      have hb' := in_i64 hb
      cases hc : Nat.ble b a with
      | false => rw [hc] at h; exact binG_ok (x := .i64 a) (y := .i64 b) ⟨rfl, ha⟩ ⟨rfl, hb⟩ (by rw [← e1, ← e2]; exact h)
      | true =>
        rw [hc] at h; cases h
        refine Bin.int (z := .int .i64 (wrapF .i64 (.ofNat (Nat.sub a b)))) (by show Bool.rec (motive := fun _ => Option Value) _ _ (Nat.ble b a) = _; rw [hc]) (by decide) (by decide) ?_
        have e : a - b ≤ a := Nat.sub_le a b
        rw [wrapF_eq, wrap_in (in_i64 (show Nat.sub a b ≤ _ by show a - b ≤ _; omega))]
        exact ⟨rfl, by show a - b ≤ _; omega⟩
    · exact binG_ok hx hy h
  · exact binG_ok hx hy h
theorem quo_i64_ok {P : Program} {ρ : Pl} {x y : G} {T : Tm} {σ : St} {v : AV} {X Y : Value} (hx : Rv ρ (x T) X) (hy : Rv ρ (y T) Y) (h : quo_i64 x y T σ = .ok v) : Bin P ρ .quo X Y v := by
  unfold quo_i64 at h
  rcases onI64_or h with ⟨a, e1, h⟩ | h
  · rcases onI64_or h with ⟨b, e2, h⟩ | h
    · rw [e1] at hx; rw [e2] at hy
      obtain ⟨rfl, ha⟩ := hx
      obtain ⟨rfl, hb⟩ := hy
      have ha' := in_i64 ha
      have hb' := in_i64 hb
      cases hc : Nat.beq b 0 with
      | true => rw [hc] at h; cases h
      | false =>
        rw [hc] at h; cases h
        refine Bin.int (z := .int .i64 (wrapF .i64 (.ofNat (Nat.div a b)))) (by show Bool.rec (motive := fun _ => Option Value) _ _ (Nat.beq b 0) = _; rw [hc]) (by decide) (by decide) ?_
        have e : a / b ≤ a := Nat.div_le_self a b
        rw [wrapF_eq, wrap_in (in_i64 (show Nat.div a b ≤ _ by show a / b ≤ _; omega))]
        exact ⟨rfl, by show a / b ≤ _; omega⟩
    · exact binG_ok hx hy h
  · exact binG_ok hx hy h
theorem rem_i64_ok {P : Program} {ρ : Pl} {x y : G} {T : Tm} {σ : St} {v : AV} {X Y : Value} (hx : Rv ρ (x T) X) (hy : Rv ρ (y T) Y) (h : rem_i64 x y T σ = .ok v) : Bin P ρ .rem X Y v := by
  unfold rem_i64 at h
  rcases onI64_or h with ⟨a, e1, h⟩ | h
  · rcases onI64_or h with ⟨b, e2, h⟩ | h
    · rw [e1] at hx; rw [e2] at hy
      obtain ⟨rfl, ha⟩ := hx
      obtain ⟨rfl, hb⟩ := hy
      have ha' := in_i64 ha
      have hb' := in_i64 hb
      cases hc : Nat.beq b 0 with
      | true => rw [hc] at h; cases h
      | false =>
        rw [hc] at h; cases h
        refine Bin.int (z := .int .i64 (.ofNat (Nat.mod a b))) (by show Bool.rec (motive := fun _ => Option Value) _ _ (Nat.beq b 0) = _; rw [hc]) (by decide) (by decide) ?_
        have e : a % b ≤ a := Nat.mod_le a b
        exact ⟨rfl, by show a % b ≤ _; omega⟩
    · exact binG_ok hx hy h
  · exact binG_ok hx hy h
theorem and_i64_ok {P : Program} {ρ : Pl} {x y : G} {T : Tm} {σ : St} {v : AV} {X Y : Value} (hx : Rv ρ (x T) X) (hy : Rv ρ (y T) Y) (h : and_i64 x y T σ = .ok v) : Bin P ρ .and X Y v := by
  unfold and_i64 at h
  rcases onI64_or h with ⟨a, e1, h⟩ | h
  · rcases onI64_or h with ⟨b, e2, h⟩ | h
    · rw [e1] at hx; rw [e2] at hy
      obtain ⟨rfl, ha⟩ := hx
      obtain ⟨rfl, hb⟩ := hy
      have ha' := in_i64 ha
      have hb' := in_i64 hb
      cases h
      refine Bin.int (z := .int .i64 (wrapF .i64 (.ofNat (Nat.land (modK .i64 a) (modK .i64 b))))) rfl (by decide) (by decide) ?_
      rw [modK_in ha', modK_in hb']
      have e : Nat.land a b < 2 ^ 63 := Nat.and_lt_two_pow a (n := 63) (by omega)
      have e' : Nat.land a b < lim .i64 := by show _ < 9223372036854775808; omega
      rw [wrapF_eq, wrap_in e']
      exact ⟨rfl, by omega⟩
    · exact binG_ok hx hy h
  · exact binG_ok hx hy h
theorem or_i64_ok {P : Program} {ρ : Pl} {x y : G} {T : Tm} {σ : St} {v : AV} {X Y : Value} (hx : Rv ρ (x T) X) (hy : Rv ρ (y T) Y) (h : or_i64 x y T σ = .ok v) : Bin P ρ .or X Y v := by
  unfold or_i64 at h
  rcases onI64_or h with ⟨a, e1, h⟩ | h
  · rcases onI64_or h with ⟨b, e2, h⟩ | h
    · rw [e1] at hx; rw [e2] at hy
      obtain ⟨rfl, ha⟩ := hx
      obtain ⟨rfl, hb⟩ := hy
      have ha' := in_i64 ha
      have hb' := in_i64 hb
      cases h
      refine Bin.int (z := .int .i64 (wrapF .i64 (.ofNat (Nat.lor (modK .i64 a) (modK .i64 b))))) rfl (by decide) (by decide) ?_
      rw [modK_in ha', modK_in hb']
      have e : Nat.lor a b < 2 ^ 63 := Nat.or_lt_two_pow (n := 63) (by omega) (by omega)
      have e' : Nat.lor a b < lim .i64 := by show _ < 9223372036854775808; omega
      rw [wrapF_eq, wrap_in e']
      exact ⟨rfl, by omega⟩
    · exact binG_ok hx hy h
  · exact binG_ok hx hy h
theorem xor_i64_ok {P : Program} {ρ : Pl} {x y : G} {T : Tm} {σ : St} {v : AV} {X Y : Value} (hx : Rv ρ (x T) X) (hy : Rv ρ (y T) Y) (h : xor_i64 x y T σ = .ok v) : Bin P ρ .xor X Y v := by
  unfold xor_i64 at h
  rcases onI64_or h with ⟨a, e1, h⟩ | h
  · rcases onI64_or h with ⟨b, e2, h⟩ | h
    · rw [e1] at hx; rw [e2] at hy
      obtain ⟨rfl, ha⟩ := hx
      obtain ⟨rfl, hb⟩ := hy
      have ha' := in_i64 ha
      have hb' := in_i64 hb
      cases h
      refine Bin.int (z := .int .i64 (wrapF .i64 (.ofNat (Nat.xor (modK .i64 a) (modK .i64 b))))) rfl (by decide) (by decide) ?_
      rw [modK_in ha', modK_in hb']
      have e : Nat.xor a b < 2 ^ 63 := Nat.xor_lt_two_pow (n := 63) (by omega) (by omega)
      have e' : Nat.xor a b < lim .i64 := by show _ < 9223372036854775808; omega
      rw [wrapF_eq, wrap_in e']
      exact ⟨rfl, by omega⟩
    · exact binG_ok hx hy h
  · exact binG_ok hx hy h
theorem lss_i64_ok {P : Program} {ρ : Pl} {x y : G} {T : Tm} {σ : St} {v : AV} {X Y : Value} (hx : Rv ρ (x T) X) (hy : Rv ρ (y T) Y) (h : lss_i64 x y T σ = .ok v) : Bin P ρ .lss X Y v := by
  unfold lss_i64 at h
  rcases onI64_or h with ⟨a, e1, h⟩ | h
  · rcases onI64_or h with ⟨b, e2, h⟩ | h
    · rw [e1] at hx; rw [e2] at hy
      obtain ⟨rfl, ha⟩ := hx
      obtain ⟨rfl, hb⟩ := hy
      have ha' := in_i64 ha
      have hb' := in_i64 hb
      cases h
      exact Bin.int (z := .bool (Nat.blt a b)) rfl (by decide) (by decide) rfl
    · exact binG_ok hx hy h
  · exact binG_ok hx hy h
theorem leq_i64_ok {P : Program} {ρ : Pl} {x y : G} {T : Tm} {σ : St} {v : AV} {X Y : Value} (hx : Rv ρ (x T) X) (hy : Rv ρ (y T) Y) (h : leq_i64 x y T σ = .ok v) : Bin P ρ .leq X Y v := by
  unfold leq_i64 at h
  rcases onI64_or h with ⟨a, e1, h⟩ | h
  · rcases onI64_or h with ⟨b, e2, h⟩ | h
    · rw [e1] at hx; rw [e2] at hy
      obtain ⟨rfl, ha⟩ := hx
      obtain ⟨rfl, hb⟩ := hy
      have ha' := in_i64 ha
      have hb' := in_i64 hb
      cases h
      exact Bin.int (z := .bool (Nat.ble a b)) rfl (by decide) (by decide) rfl
    · exact binG_ok hx hy h
  · exact binG_ok hx hy h
theorem gtr_i64_ok {P : Program} {ρ : Pl} {x y : G} {T : Tm} {σ : St} {v : AV} {X Y : Value} (hx : Rv ρ (x T) X) (hy : Rv ρ (y T) Y) (h : gtr_i64 x y T σ = .ok v) : Bin P ρ .gtr X Y v := by
  unfold gtr_i64 at h
  rcases onI64_or h with ⟨a, e1, h⟩ | h
  · rcases onI64_or h with ⟨b, e2, h⟩ | h
    · rw [e1] at hx; rw [e2] at hy
      obtain ⟨rfl, ha⟩ := hx
      obtain ⟨rfl, hb⟩ := hy
      have ha' := in_i64 ha
      have hb' := in_i64 hb
      cases h
      exact Bin.int (z := .bool (Nat.blt b a)) rfl (by decide) (by decide) rfl
    · exact binG_ok hx hy h
  · exact binG_ok hx hy h
theorem geq_i64_ok {P : Program} {ρ : Pl} {x y : G} {T : Tm} {σ : St} {v : AV} {X Y : Value} (hx : Rv ρ (x T) X) (hy : Rv ρ (y T) Y) (h : geq_i64 x y T σ = .ok v) : Bin P ρ .geq X Y v := by
  unfold geq_i64 at h
  rcases onI64_or h with ⟨a, e1, h⟩ | h
  · rcases onI64_or h with ⟨b, e2, h⟩ | h
    · rw [e1] at hx; rw [e2] at hy
      obtain ⟨rfl, ha⟩ := hx
      obtain ⟨rfl, hb⟩ := hy
      have ha' := in_i64 ha
      have hb' := in_i64 hb
      cases h
      exact Bin.int (z := .bool (Nat.ble b a)) rfl (by decide) (by decide) rfl
    · exact binG_ok hx hy h
  · exact binG_ok hx hy h
theorem eql_i64_ok {P : Program} {ρ : Pl} {x y : G} {T : Tm} {σ : St} {v : AV} {X Y : Value} (hx : Rv ρ (x T) X) (hy : Rv ρ (y T) Y) (h : eql_i64 x y T σ = .ok v) : Bin P ρ .eql X Y v := by
  unfold eql_i64 at h
  rcases onI64_or h with ⟨a, e1, h⟩ | h
  · rcases onI64_or h with ⟨b, e2, h⟩ | h
    · rw [e1] at hx; rw [e2] at hy
      obtain ⟨rfl, ha⟩ := hx
      obtain ⟨rfl, hb⟩ := hy
      have ha' := in_i64 ha
      have hb' := in_i64 hb
      cases h
      exact Bin.int (z := .bool (Nat.beq a b)) rfl (by decide) (by decide) rfl
    · exact binG_ok hx hy h
  · exact binG_ok hx hy h
theorem neq_i64_ok {P : Program} {ρ : Pl} {x y : G} {T : Tm} {σ : St} {v : AV} {X Y : Value} (hx : Rv ρ (x T) X) (hy : Rv ρ (y T) Y) (h : neq_i64 x y T σ = .ok v) : Bin P ρ .neq X Y v := by
  unfold neq_i64 at h
  rcases onI64_or h with ⟨a, e1, h⟩ | h
  · rcases onI64_or h with ⟨b, e2, h⟩ | h
    · rw [e1] at hx; rw [e2] at hy
      obtain ⟨rfl, ha⟩ := hx
      obtain ⟨rfl, hb⟩ := hy
      have ha' := in_i64 ha
      have hb' := in_i64 hb
      cases h
      exact Bin.int (z := .bool (not (Nat.beq a b))) rfl (by decide) (by decide) rfl
    · exact binG_ok hx hy h
  · exact binG_ok hx hy h
theorem shl_i64_ok {P : Program} {ρ : Pl} {x y : G} {T : Tm} {σ : St} {v : AV} {X Y : Value} (hx : Rv ρ (x T) X) (hy : Rv ρ (y T) Y) (h : shl_i64 x y T σ = .ok v) : Bin P ρ .shl X Y v := by
  unfold shl_i64 at h
  obtain ⟨a, e1, h⟩ := onI64_some h OA.ne
  rcases onNum_or h with ⟨b, e2, h⟩ | h
  · rw [e1] at hx
    obtain ⟨rfl, ha⟩ := hx
    obtain ⟨k', rfl⟩ := Rv_num hy e2
    refine Bin.sh (z := .int .i64 (wrapF .i64 (.ofNat (Nat.shiftLeft a (Nat.min b 64))))) rfl (.inl rfl) ?_
    rw [wrapF_eq]; exact w64_ok h
  · cases h
theorem shr_i64_ok {P : Program} {ρ : Pl} {x y : G} {T : Tm} {σ : St} {v : AV} {X Y : Value} (hx : Rv ρ (x T) X) (hy : Rv ρ (y T) Y) (h : shr_i64 x y T σ = .ok v) : Bin P ρ .shr X Y v := by
  unfold shr_i64 at h
  obtain ⟨a, e1, h⟩ := onI64_some h OA.ne
  rcases onNum_or h with ⟨b, e2, h⟩ | h
  · rw [e1] at hx
    obtain ⟨rfl, ha⟩ := hx
    obtain ⟨k', rfl⟩ := Rv_num hy e2
    cases h
    refine Bin.sh (z := .int .i64 (.ofNat (Nat.shiftRight a (Nat.min b 64)))) rfl (.inr rfl) ?_
    have e : a >>> (Nat.min b 64) ≤ a := by rw [Nat.shiftRight_eq_div_pow]; exact Nat.div_le_self _ _
    exact ⟨rfl, by show a >>> (Nat.min b 64) ≤ _; omega⟩
  · cases h
theorem in_u64 {n : Nat} (h : n < 18446744073709551616) : n < lim .u64 := by show n < 18446744073709551616; omega
theorem add_u64_ok {P : Program} {ρ : Pl} {x y : G} {T : Tm} {σ : St} {v : AV} {X Y : Value} (hx : Rv ρ (x T) X) (hy : Rv ρ (y T) Y) (h : add_u64 x y T σ = .ok v) : Bin P ρ .add X Y v := by
  unfold add_u64 at h
  rcases onU64_or h with ⟨a, e1, h⟩ | h
  · rcases onU64_or h with ⟨b, e2, h⟩ | h
    · rw [e1] at hx; rw [e2] at hy
      obtain ⟨rfl, ha⟩ := hx
      obtain ⟨rfl, hb⟩ := hy
      have ha' := in_u64 ha
      have hb' := in_u64 hb
      refine Bin.int (z := .int .u64 (wrapF .u64 (.ofNat (Nat.add a b)))) rfl (by decide) (by decide) ?_
      rw [wrapF_eq]; exact wu64_ok h
    · exact binG_ok hx hy h
  · exact binG_ok hx hy h
theorem mul_u64_ok {P : Program} {ρ : Pl} {x y : G} {T : Tm} {σ : St} {v : AV} {X Y : Value} (hx : Rv ρ (x T) X) (hy : Rv ρ (y T) Y) (h : mul_u64 x y T σ = .ok v) : Bin P ρ .mul X Y v := by
  unfold mul_u64 at h
  rcases onU64_or h with ⟨a, e1, h⟩ | h
  · rcases onU64_or h with ⟨b, e2, h⟩ | h
    · rw [e1] at hx; rw [e2] at hy
      obtain ⟨rfl, ha⟩ := hx
      obtain ⟨rfl, hb⟩ := hy
      have ha' := in_u64 ha
      have hb' := in_u64 hb
      refine Bin.int (z := .int .u64 (wrapF .u64 (.ofNat (Nat.mul a b)))) rfl (by decide) (by decide) ?_
      rw [wrapF_eq]; exact wu64_ok h
    · exact binG_ok hx hy h
  · exact binG_ok hx hy h
theorem sub_u64_ok {P : Program} {ρ : Pl} {x y : G} {T : Tm} {σ : St} {v : AV} {X Y : Value} (hx : Rv ρ (x T) X) (hy : Rv ρ (y T) Y) (h : sub_u64 x y T σ = .ok v) : Bin P ρ .sub X Y v := by
  unfold sub_u64 at h
  rcases onU64_or h with ⟨a, e1, h⟩ | h
  · rcases onU64_or h with ⟨b, e2, h⟩ | h
    · rw [e1] at hx; rw [e2] at hy
      obtain ⟨rfl, ha⟩ := hx
      obtain ⟨rfl, hb⟩ := hy
      have ha' := in_u64 ha
      have hb' := in_u64 hb
      cases hc : Nat.ble b a with
      | false => rw [hc] at h; exact binG_ok (x := .u64 a) (y := .u64 b) ⟨rfl, ha⟩ ⟨rfl, hb⟩ (by rw [← e1, ← e2]; exact h)
      | true =>
        rw [hc] at h; cases h
        refine Bin.int (z := .int .u64 (wrapF .u64 (.ofNat (Nat.sub a b)))) (by show Bool.rec (motive := fun _ => Option Value) _ _ (Nat.ble b a) = _; rw [hc]) (by decide) (by decide) ?_
        have e : a - b ≤ a := Nat.sub_le a b
        rw [wrapF_eq, wrap_in (in_u64 (show Nat.sub a b < _ by show a - b < _; omega))]
        exact ⟨rfl, by show a - b < _; omega⟩
    · exact binG_ok hx hy h
  · exact binG_ok hx hy h
theorem quo_u64_ok {P : Program} {ρ : Pl} {x y : G} {T : Tm} {σ : St} {v : AV} {X Y : Value} (hx : Rv ρ (x T) X) (hy : Rv ρ (y T) Y) (h : quo_u64 x y T σ = .ok v) : Bin P ρ .quo X Y v := by
  unfold quo_u64 at h
  rcases onU64_or h with ⟨a, e1, h⟩ | h
  · rcases onU64_or h with ⟨b, e2, h⟩ | h
    · rw [e1] at hx; rw [e2] at hy
      obtain ⟨rfl, ha⟩ := hx
      obtain ⟨rfl, hb⟩ := hy
      have ha' := in_u64 ha
      have hb' := in_u64 hb
      cases hc : Nat.beq b 0 with
      | true => rw [hc] at h; cases h
      | false =>
        rw [hc] at h; cases h
        refine Bin.int (z := .int .u64 (wrapF .u64 (.ofNat (Nat.div a b)))) (by show Bool.rec (motive := fun _ => Option Value) _ _ (Nat.beq b 0) = _; rw [hc]) (by decide) (by decide) ?_
        have e : a / b ≤ a := Nat.div_le_self a b
        rw [wrapF_eq, wrap_in (in_u64 (show Nat.div a b < _ by show a / b < _; omega))]
        exact ⟨rfl, by show a / b < _; omega⟩
    · exact binG_ok hx hy h
  · exact binG_ok hx hy h
theorem rem_u64_ok {P : Program} {ρ : Pl} {x y : G} {T : Tm} {σ : St} {v : AV} {X Y : Value} (hx : Rv ρ (x T) X) (hy : Rv ρ (y T) Y) (h : rem_u64 x y T σ = .ok v) : Bin P ρ .rem X Y v := by
  unfold rem_u64 at h
  rcases onU64_or h with ⟨a, e1, h⟩ | h
  · rcases onU64_or h with ⟨b, e2, h⟩ | h
    · rw [e1] at hx; rw [e2] at hy
      obtain ⟨rfl, ha⟩ := hx
      obtain ⟨rfl, hb⟩ := hy
      have ha' := in_u64 ha
      have hb' := in_u64 hb
      cases hc : Nat.beq b 0 with
      | true => rw [hc] at h; cases h
      | false =>
        rw [hc] at h; cases h
        refine Bin.int (z := .int .u64 (.ofNat (Nat.mod a b))) (by show Bool.rec (motive := fun _ => Option Value) _ _ (Nat.beq b 0) = _; rw [hc]) (by decide) (by decide) ?_
        have e : a % b ≤ a := Nat.mod_le a b
        exact ⟨rfl, by show a % b < _; omega⟩
    · exact binG_ok hx hy h
  · exact binG_ok hx hy h
theorem and_u64_ok {P : Program} {ρ : Pl} {x y : G} {T : Tm} {σ : St} {v : AV} {X Y : Value} (hx : Rv ρ (x T) X) (hy : Rv ρ (y T) Y) (h : and_u64 x y T σ = .ok v) : Bin P ρ .and X Y v := by
  unfold and_u64 at h
  rcases onU64_or h with ⟨a, e1, h⟩ | h
  · rcases onU64_or h with ⟨b, e2, h⟩ | h
    · rw [e1] at hx; rw [e2] at hy
      obtain ⟨rfl, ha⟩ := hx
      obtain ⟨rfl, hb⟩ := hy
      have ha' := in_u64 ha
      have hb' := in_u64 hb
      cases h
      refine Bin.int (z := .int .u64 (wrapF .u64 (.ofNat (Nat.land (modK .u64 a) (modK .u64 b))))) rfl (by decide) (by decide) ?_
      rw [modK_in ha', modK_in hb']
      have e : Nat.land a b < 2 ^ 64 := Nat.and_lt_two_pow a (n := 64) (by omega)
      have e' : Nat.land a b < lim .u64 := by show _ < 18446744073709551616; omega
      rw [wrapF_eq, wrap_in e']
      exact ⟨rfl, by omega⟩
    · exact binG_ok hx hy h
  · exact binG_ok hx hy h
theorem or_u64_ok {P : Program} {ρ : Pl} {x y : G} {T : Tm} {σ : St} {v : AV} {X Y : Value} (hx : Rv ρ (x T) X) (hy : Rv ρ (y T) Y) (h : or_u64 x y T σ = .ok v) : Bin P ρ .or X Y v := by
  unfold or_u64 at h
  rcases onU64_or h with ⟨a, e1, h⟩ | h
  · rcases onU64_or h with ⟨b, e2, h⟩ | h
    · rw [e1] at hx; rw [e2] at hy
      obtain ⟨rfl, ha⟩ := hx
      obtain ⟨rfl, hb⟩ := hy
      have ha' := in_u64 ha
      have hb' := in_u64 hb
      cases h
      refine Bin.int (z := .int .u64 (wrapF .u64 (.ofNat (Nat.lor (modK .u64 a) (modK .u64 b))))) rfl (by decide) (by decide) ?_
      rw [modK_in ha', modK_in hb']
      have e : Nat.lor a b < 2 ^ 64 := Nat.or_lt_two_pow (n := 64) (by omega) (by omega)
      have e' : Nat.lor a b < lim .u64 := by show _ < 18446744073709551616; omega
      rw [wrapF_eq, wrap_in e']
      exact ⟨rfl, by omega⟩
    · exact binG_ok hx hy h
  · exact binG_ok hx hy h
theorem xor_u64_ok {P : Program} {ρ : Pl} {x y : G} {T : Tm} {σ : St} {v : AV} {X Y : Value} (hx : Rv ρ (x T) X) (hy : Rv ρ (y T) Y) (h : xor_u64 x y T σ = .ok v) : Bin P ρ .xor X Y v := by
  unfold xor_u64 at h
  rcases onU64_or h with ⟨a, e1, h⟩ | h
  · rcases onU64_or h with ⟨b, e2, h⟩ | h
    · rw [e1] at hx; rw [e2] at hy
      obtain ⟨rfl, ha⟩ := hx
      obtain ⟨rfl, hb⟩ := hy
      have ha' := in_u64 ha
      have hb' := in_u64 hb
      cases h
      refine Bin.int (z := .int .u64 (wrapF .u64 (.ofNat (Nat.xor (modK .u64 a) (modK .u64 b))))) rfl (by decide) (by decide) ?_
      rw [modK_in ha', modK_in hb']
      have e : Nat.xor a b < 2 ^ 64 := Nat.xor_lt_two_pow (n := 64) (by omega) (by omega)
      have e' : Nat.xor a b < lim .u64 := by show _ < 18446744073709551616; omega
      rw [wrapF_eq, wrap_in e']
      exact ⟨rfl, by omega⟩
    · exact binG_ok hx hy h
  · exact binG_ok hx hy h
theorem lss_u64_ok {P : Program} {ρ : Pl} {x y : G} {T : Tm} {σ : St} {v : AV} {X Y : Value} (hx : Rv ρ (x T) X) (hy : Rv ρ (y T) Y) (h : lss_u64 x y T σ = .ok v) : Bin P ρ .lss X Y v := by
  unfold lss_u64 at h
  rcases onU64_or h with ⟨a, e1, h⟩ | h
  · rcases onU64_or h with ⟨b, e2, h⟩ | h
    · rw [e1] at hx; rw [e2] at hy
      obtain ⟨rfl, ha⟩ := hx
      obtain ⟨rfl, hb⟩ := hy
      have ha' := in_u64 ha
      have hb' := in_u64 hb
      cases h
      exact Bin.int (z := .bool (Nat.blt a b)) rfl (by decide) (by decide) rfl
    · exact binG_ok hx hy h
  · exact binG_ok hx hy h
theorem leq_u64_ok {P : Program} {ρ : Pl} {x y : G} {T : Tm} {σ : St} {v : AV} {X Y : Value} (hx : Rv ρ (x T) X) (hy : Rv ρ (y T) Y) (h : leq_u64 x y T σ = .ok v) : Bin P ρ .leq X Y v := by
  unfold leq_u64 at h
  rcases onU64_or h with ⟨a, e1, h⟩ | h
  · rcases onU64_or h with ⟨b, e2, h⟩ | h
    · rw [e1] at hx; rw [e2] at hy
      obtain ⟨rfl, ha⟩ := hx
      obtain ⟨rfl, hb⟩ := hy
      have ha' := in_u64 ha
      have hb' := in_u64 hb
      cases h
      exact Bin.int (z := .bool (Nat.ble a b)) rfl (by decide) (by decide) rfl
    · exact binG_ok hx hy h
  · exact binG_ok hx hy h
theorem gtr_u64_ok {P : Program} {ρ : Pl} {x y : G} {T : Tm} {σ : St} {v : AV} {X Y : Value} (hx : Rv ρ (x T) X) (hy : Rv ρ (y T) Y) (h : gtr_u64 x y T σ = .ok v) : Bin P ρ .gtr X Y v := by
  unfold gtr_u64 at h
  rcases onU64_or h with ⟨a, e1, h⟩ | h
  · rcases onU64_or h with ⟨b, e2, h⟩ | h
    · rw [e1] at hx; rw [e2] at hy
      obtain ⟨rfl, ha⟩ := hx
      obtain ⟨rfl, hb⟩ := hy
      have ha' := in_u64 ha
      have hb' := in_u64 hb
      cases h
      exact Bin.int (z := .bool (Nat.blt b a)) rfl (by decide) (by decide) rfl
    · exact binG_ok hx hy h
  · exact binG_ok hx hy h
theorem geq_u64_ok {P : Program} {ρ : Pl} {x y : G} {T : Tm} {σ : St} {v : AV} {X Y : Value} (hx : Rv ρ (x T) X) (hy : Rv ρ (y T) Y) (h : geq_u64 x y T σ = .ok v) : Bin P ρ .geq X Y v := by
  unfold geq_u64 at h
  rcases onU64_or h with ⟨a, e1, h⟩ | h
  · rcases onU64_or h with ⟨b, e2, h⟩ | h
    · rw [e1] at hx; rw [e2] at hy
      obtain ⟨rfl, ha⟩ := hx
      obtain ⟨rfl, hb⟩ := hy
      have ha' := in_u64 ha
      have hb' := in_u64 hb
      cases h
      exact Bin.int (z := .bool (Nat.ble b a)) rfl (by decide) (by decide) rfl
    · exact binG_ok hx hy h
  · exact binG_ok hx hy h
theorem eql_u64_ok {P : Program} {ρ : Pl} {x y : G} {T : Tm} {σ : St} {v : AV} {X Y : Value} (hx : Rv ρ (x T) X) (hy : Rv ρ (y T) Y) (h : eql_u64 x y T σ = .ok v) : Bin P ρ .eql X Y v := by
  unfold eql_u64 at h
  rcases onU64_or h with ⟨a, e1, h⟩ | h
  · rcases onU64_or h with ⟨b, e2, h⟩ | h
    · rw [e1] at hx; rw [e2] at hy
      obtain ⟨rfl, ha⟩ := hx
      obtain ⟨rfl, hb⟩ := hy
      have ha' := in_u64 ha
      have hb' := in_u64 hb
      cases h
      exact Bin.int (z := .bool (Nat.beq a b)) rfl (by decide) (by decide) rfl
    · exact binG_ok hx hy h
  · exact binG_ok hx hy h
theorem neq_u64_ok {P : Program} {ρ : Pl} {x y : G} {T : Tm} {σ : St} {v : AV} {X Y : Value} (hx : Rv ρ (x T) X) (hy : Rv ρ (y T) Y) (h : neq_u64 x y T σ = .ok v) : Bin P ρ .neq X Y v := by
  unfold neq_u64 at h
  rcases onU64_or h with ⟨a, e1, h⟩ | h
  · rcases onU64_or h with ⟨b, e2, h⟩ | h
    · rw [e1] at hx; rw [e2] at hy
      obtain ⟨rfl, ha⟩ := hx
      obtain ⟨rfl, hb⟩ := hy
      have ha' := in_u64 ha
      have hb' := in_u64 hb
      cases h
      exact Bin.int (z := .bool (not (Nat.beq a b))) rfl (by decide) (by decide) rfl
    · exact binG_ok hx hy h
  · exact binG_ok hx hy h
theorem shl_u64_ok {P : Program} {ρ : Pl} {x y : G} {T : Tm} {σ : St} {v : AV} {X Y : Value} (hx : Rv ρ (x T) X) (hy : Rv ρ (y T) Y) (h : shl_u64 x y T σ = .ok v) : Bin P ρ .shl X Y v := by
  unfold shl_u64 at h
  obtain ⟨a, e1, h⟩ := onU64_some h OA.ne
  rcases onNum_or h with ⟨b, e2, h⟩ | h
  · rw [e1] at hx
    obtain ⟨rfl, ha⟩ := hx
    obtain ⟨k', rfl⟩ := Rv_num hy e2
    refine Bin.sh (z := .int .u64 (wrapF .u64 (.ofNat (Nat.shiftLeft a (Nat.min b 64))))) rfl (.inl rfl) ?_
    rw [wrapF_eq]; exact wu64_ok h
  · cases h
theorem shr_u64_ok {P : Program} {ρ : Pl} {x y : G} {T : Tm} {σ : St} {v : AV} {X Y : Value} (hx : Rv ρ (x T) X) (hy : Rv ρ (y T) Y) (h : shr_u64 x y T σ = .ok v) : Bin P ρ .shr X Y v := by
  unfold shr_u64 at h
  obtain ⟨a, e1, h⟩ := onU64_some h OA.ne
  rcases onNum_or h with ⟨b, e2, h⟩ | h
  · rw [e1] at hx
    obtain ⟨rfl, ha⟩ := hx
    obtain ⟨k', rfl⟩ := Rv_num hy e2
    cases h
    refine Bin.sh (z := .int .u64 (.ofNat (Nat.shiftRight a (Nat.min b 64)))) rfl (.inr rfl) ?_
    have e : a >>> (Nat.min b 64) ≤ a := by rw [Nat.shiftRight_eq_div_pow]; exact Nat.div_le_self _ _
    exact ⟨rfl, by show a >>> (Nat.min b 64) < _; omega⟩
  · cases h
theorem in_u8 {n : Nat} (h : n < 256) : n < lim .u8 := by show n < 256; omega
theorem add_u8_ok {P : Program} {ρ : Pl} {x y : G} {T : Tm} {σ : St} {v : AV} {X Y : Value} (hx : Rv ρ (x T) X) (hy : Rv ρ (y T) Y) (h : add_u8 x y T σ = .ok v) : Bin P ρ .add X Y v := by
  unfold add_u8 at h
  rcases onU8_or h with ⟨a, e1, h⟩ | h
  · rcases onU8_or h with ⟨b, e2, h⟩ | h
    · rw [e1] at hx; rw [e2] at hy
      obtain ⟨rfl, ha⟩ := hx
      obtain ⟨rfl, hb⟩ := hy
      have ha' := in_u8 ha
      have hb' := in_u8 hb
      refine Bin.int (z := .int .u8 (wrapF .u8 (.ofNat (Nat.add a b)))) rfl (by decide) (by decide) ?_
      rw [wrapF_eq]; exact wu8_ok h
    · exact binG_ok hx hy h
  · exact binG_ok hx hy h
theorem mul_u8_ok {P : Program} {ρ : Pl} {x y : G} {T : Tm} {σ : St} {v : AV} {X Y : Value} (hx : Rv ρ (x T) X) (hy : Rv ρ (y T) Y) (h : mul_u8 x y T σ = .ok v) : Bin P ρ .mul X Y v := by
  unfold mul_u8 at h
  rcases onU8_or h with ⟨a, e1, h⟩ | h
  · rcases onU8_or h with ⟨b, e2, h⟩ | h
    · rw [e1] at hx; rw [e2] at hy
      obtain ⟨rfl, ha⟩ := hx
      obtain ⟨rfl, hb⟩ := hy
      have ha' := in_u8 ha
      have hb' := in_u8 hb
      refine Bin.int (z := .int .u8 (wrapF .u8 (.ofNat (Nat.mul a b)))) rfl (by decide) (by decide) ?_
      rw [wrapF_eq]; exact wu8_ok h
    · exact binG_ok hx hy h
  · exact binG_ok hx hy h
theorem sub_u8_ok {P : Program} {ρ : Pl} {x y : G} {T : Tm} {σ : St} {v : AV} {X Y : Value} (hx : Rv ρ (x T) X) (hy : Rv ρ (y T) Y) (h : sub_u8 x y T σ = .ok v) : Bin P ρ .sub X Y v := by
  unfold sub_u8 at h
  rcases onU8_or h with ⟨a, e1, h⟩ | h
  · rcases onU8_or h with ⟨b, e2, h⟩ | h
    · rw [e1] at hx; rw [e2] at hy
      obtain ⟨rfl, ha⟩ := hx
      obtain ⟨rfl, hb⟩ := hy
      have ha' := in_u8 ha
      have hb' := in_u8 hb
      cases hc : Nat.ble b a with
      | false => rw [hc] at h; exact binG_ok (x := .u8 a) (y := .u8 b) ⟨rfl, ha⟩ ⟨rfl, hb⟩ (by rw [← e1, ← e2]; exact h)
      | true =>
        rw [hc] at h; cases h
        refine Bin.int (z := .int .u8 (wrapF .u8 (.ofNat (Nat.sub a b)))) (by show Bool.rec (motive := fun _ => Option Value) _ _ (Nat.ble b a) = _; rw [hc]) (by decide) (by decide) ?_
        have e : a - b ≤ a := Nat.sub_le a b
        rw [wrapF_eq, wrap_in (in_u8 (show Nat.sub a b < _ by show a - b < _; omega))]
        exact ⟨rfl, by show a - b < _; omega⟩
    · exact binG_ok hx hy h
  · exact binG_ok hx hy h
theorem quo_u8_ok {P : Program} {ρ : Pl} {x y : G} {T : Tm} {σ : St} {v : AV} {X Y : Value} (hx : Rv ρ (x T) X) (hy : Rv ρ (y T) Y) (h : quo_u8 x y T σ = .ok v) : Bin P ρ .quo X Y v := by
  unfold quo_u8 at h
  rcases onU8_or h with ⟨a, e1, h⟩ | h
  · rcases onU8_or h with ⟨b, e2, h⟩ | h
    · rw [e1] at hx; rw [e2] at hy
      obtain ⟨rfl, ha⟩ := hx
      obtain ⟨rfl, hb⟩ := hy
      have ha' := in_u8 ha
      have hb' := in_u8 hb
      cases hc : Nat.beq b 0 with
      | true => rw [hc] at h; cases h
      | false =>
        rw [hc] at h; cases h
        refine Bin.int (z := .int .u8 (wrapF .u8 (.ofNat (Nat.div a b)))) (by show Bool.rec (motive := fun _ => Option Value) _ _ (Nat.beq b 0) = _; rw [hc]) (by decide) (by decide) ?_
        have e : a / b ≤ a := Nat.div_le_self a b
        rw [wrapF_eq, wrap_in (in_u8 (show Nat.div a b < _ by show a / b < _; omega))]
        exact ⟨rfl, by show a / b < _; omega⟩
    · exact binG_ok hx hy h
  · exact binG_ok hx hy h
theorem rem_u8_ok {P : Program} {ρ : Pl} {x y : G} {T : Tm} {σ : St} {v : AV} {X Y : Value} (hx : Rv ρ (x T) X) (hy : Rv ρ (y T) Y) (h : rem_u8 x y T σ = .ok v) : Bin P ρ .rem X Y v := by
  unfold rem_u8 at h
  rcases onU8_or h with ⟨a, e1, h⟩ | h
  · rcases onU8_or h with ⟨b, e2, h⟩ | h
    · rw [e1] at hx; rw [e2] at hy
      obtain ⟨rfl, ha⟩ := hx
      obtain ⟨rfl, hb⟩ := hy
      have ha' := in_u8 ha
      have hb' := in_u8 hb
      cases hc : Nat.beq b 0 with
      | true => rw [hc] at h; cases h
      | false =>
        rw [hc] at h; cases h
        refine Bin.int (z := .int .u8 (.ofNat (Nat.mod a b))) (by show Bool.rec (motive := fun _ => Option Value) _ _ (Nat.beq b 0) = _; rw [hc]) (by decide) (by decide) ?_
        have e : a % b ≤ a := Nat.mod_le a b
        exact ⟨rfl, by show a % b < _; omega⟩
    · exact binG_ok hx hy h
  · exact binG_ok hx hy h
theorem and_u8_ok {P : Program} {ρ : Pl} {x y : G} {T : Tm} {σ : St} {v : AV} {X Y : Value} (hx : Rv ρ (x T) X) (hy : Rv ρ (y T) Y) (h : and_u8 x y T σ = .ok v) : Bin P ρ .and X Y v := by
  unfold and_u8 at h
  rcases onU8_or h with ⟨a, e1, h⟩ | h
  · rcases onU8_or h with ⟨b, e2, h⟩ | h
    · rw [e1] at hx; rw [e2] at hy
      obtain ⟨rfl, ha⟩ := hx
      obtain ⟨rfl, hb⟩ := hy
      have ha' := in_u8 ha
      have hb' := in_u8 hb
      cases h
      refine Bin.int (z := .int .u8 (wrapF .u8 (.ofNat (Nat.land (modK .u8 a) (modK .u8 b))))) rfl (by decide) (by decide) ?_
      rw [modK_in ha', modK_in hb']
      have e : Nat.land a b < 2 ^ 8 := Nat.and_lt_two_pow a (n := 8) (by omega)
      have e' : Nat.land a b < lim .u8 := by show _ < 256; omega
      rw [wrapF_eq, wrap_in e']
      exact ⟨rfl, by omega⟩
    · exact binG_ok hx hy h
  · exact binG_ok hx hy h
theorem or_u8_ok {P : Program} {ρ : Pl} {x y : G} {T : Tm} {σ : St} {v : AV} {X Y : Value} (hx : Rv ρ (x T) X) (hy : Rv ρ (y T) Y) (h : or_u8 x y T σ = .ok v) : Bin P ρ .or X Y v := by
  unfold or_u8 at h
  rcases onU8_or h with ⟨a, e1, h⟩ | h
  · rcases onU8_or h with ⟨b, e2, h⟩ | h
    · rw [e1] at hx; rw [e2] at hy
      obtain ⟨rfl, ha⟩ := hx
      obtain ⟨rfl, hb⟩ := hy
      have ha' := in_u8 ha
      have hb' := in_u8 hb
      cases h
      refine Bin.int (z := .int .u8 (wrapF .u8 (.ofNat (Nat.lor (modK .u8 a) (modK .u8 b))))) rfl (by decide) (by decide) ?_
      rw [modK_in ha', modK_in hb']
      have e : Nat.lor a b < 2 ^ 8 := Nat.or_lt_two_pow (n := 8) (by omega) (by omega)
      have e' : Nat.lor a b < lim .u8 := by show _ < 256; omega
      rw [wrapF_eq, wrap_in e']
      exact ⟨rfl, by omega⟩
    · exact binG_ok hx hy h
  · exact binG_ok hx hy h
theorem xor_u8_ok {P : Program} {ρ : Pl} {x y : G} {T : Tm} {σ : St} {v : AV} {X Y : Value} (hx : Rv ρ (x T) X) (hy : Rv ρ (y T) Y) (h : xor_u8 x y T σ = .ok v) : Bin P ρ .xor X Y v := by
  unfold xor_u8 at h
  rcases onU8_or h with ⟨a, e1, h⟩ | h
  · rcases onU8_or h with ⟨b, e2, h⟩ | h
    · rw [e1] at hx; rw [e2] at hy
      obtain ⟨rfl, ha⟩ := hx
      obtain ⟨rfl, hb⟩ := hy
      have ha' := in_u8 ha
      have hb' := in_u8 hb
      cases h
      refine Bin.int (z := .int .u8 (wrapF .u8 (.ofNat (Nat.xor (modK .u8 a) (modK .u8 b))))) rfl (by decide) (by decide) ?_
      rw [modK_in ha', modK_in hb']
      have e : Nat.xor a b < 2 ^ 8 := Nat.xor_lt_two_pow (n := 8) (by omega) (by omega)
      have e' : Nat.xor a b < lim .u8 := by show _ < 256; omega
      rw [wrapF_eq, wrap_in e']
      exact ⟨rfl, by omega⟩
    · exact binG_ok hx hy h
  · exact binG_ok hx hy h
theorem lss_u8_ok {P : Program} {ρ : Pl} {x y : G} {T : Tm} {σ : St} {v : AV} {X Y : Value} (hx : Rv ρ (x T) X) (hy : Rv ρ (y T) Y) (h : lss_u8 x y T σ = .ok v) : Bin P ρ .lss X Y v := by
  unfold lss_u8 at h
  rcases onU8_or h with ⟨a, e1, h⟩ | h
  · rcases onU8_or h with ⟨b, e2, h⟩ | h
    · rw [e1] at hx; rw [e2] at hy
      obtain ⟨rfl, ha⟩ := hx
      obtain ⟨rfl, hb⟩ := hy
      have ha' := in_u8 ha
      have hb' := in_u8 hb
      cases h
      exact Bin.int (z := .bool (Nat.blt a b)) rfl (by decide) (by decide) rfl
    · exact binG_ok hx hy h
  · exact binG_ok hx hy h
theorem leq_u8_ok {P : Program} {ρ : Pl} {x y : G} {T : Tm} {σ : St} {v : AV} {X Y : Value} (hx : Rv ρ (x T) X) (hy : Rv ρ (y T) Y) (h : leq_u8 x y T σ = .ok v) : Bin P ρ .leq X Y v := by
  unfold leq_u8 at h
  rcases onU8_or h with ⟨a, e1, h⟩ | h
  · rcases onU8_or h with ⟨b, e2, h⟩ | h
    · rw [e1] at hx; rw [e2] at hy
      obtain ⟨rfl, ha⟩ := hx
      obtain ⟨rfl, hb⟩ := hy
      have ha' := in_u8 ha
      have hb' := in_u8 hb
      cases h
      exact Bin.int (z := .bool (Nat.ble a b)) rfl (by decide) (by decide) rfl
    · exact binG_ok hx hy h
  · exact binG_ok hx hy h
theorem gtr_u8_ok {P : Program} {ρ : Pl} {x y : G} {T : Tm} {σ : St} {v : AV} {X Y : Value} (hx : Rv ρ (x T) X) (hy : Rv ρ (y T) Y) (h : gtr_u8 x y T σ = .ok v) : Bin P ρ .gtr X Y v := by
  unfold gtr_u8 at h
  rcases onU8_or h with ⟨a, e1, h⟩ | h
  · rcases onU8_or h with ⟨b, e2, h⟩ | h
    · rw [e1] at hx; rw [e2] at hy
      obtain ⟨rfl, ha⟩ := hx
      obtain ⟨rfl, hb⟩ := hy
      have ha' := in_u8 ha
      have hb' := in_u8 hb
      cases h
      exact Bin.int (z := .bool (Nat.blt b a)) rfl (by decide) (by decide) rfl
    · exact binG_ok hx hy h
  · exact binG_ok hx hy h
theorem geq_u8_ok {P : Program} {ρ : Pl} {x y : G} {T : Tm} {σ : St} {v : AV} {X Y : Value} (hx : Rv ρ (x T) X) (hy : Rv ρ (y T) Y) (h : geq_u8 x y T σ = .ok v) : Bin P ρ .geq X Y v := by
  unfold geq_u8 at h
  rcases onU8_or h with ⟨a, e1, h⟩ | h
  · rcases onU8_or h with ⟨b, e2, h⟩ | h
    · rw [e1] at hx; rw [e2] at hy
      obtain ⟨rfl, ha⟩ := hx
      obtain ⟨rfl, hb⟩ := hy
      have ha' := in_u8 ha
      have hb' := in_u8 hb
      cases h
      exact Bin.int (z := .bool (Nat.ble b a)) rfl (by decide) (by decide) rfl
    · exact binG_ok hx hy h
  · exact binG_ok hx hy h
theorem eql_u8_ok {P : Program} {ρ : Pl} {x y : G} {T : Tm} {σ : St} {v : AV} {X Y : Value} (hx : Rv ρ (x T) X) (hy : Rv ρ (y T) Y) (h : eql_u8 x y T σ = .ok v) : Bin P ρ .eql X Y v := by
  unfold eql_u8 at h
  rcases onU8_or h with ⟨a, e1, h⟩ | h
  · rcases onU8_or h with ⟨b, e2, h⟩ | h
    · rw [e1] at hx; rw [e2] at hy
      obtain ⟨rfl, ha⟩ := hx
      obtain ⟨rfl, hb⟩ := hy
      have ha' := in_u8 ha
      have hb' := in_u8 hb
      cases h
      exact Bin.int (z := .bool (Nat.beq a b)) rfl (by decide) (by decide) rfl
    · exact binG_ok hx hy h
  · exact binG_ok hx hy h
theorem neq_u8_ok {P : Program} {ρ : Pl} {x y : G} {T : Tm} {σ : St} {v : AV} {X Y : Value} (hx : Rv ρ (x T) X) (hy : Rv ρ (y T) Y) (h : neq_u8 x y T σ = .ok v) : Bin P ρ .neq X Y v := by
  unfold neq_u8 at h
  rcases onU8_or h with ⟨a, e1, h⟩ | h
  · rcases onU8_or h with ⟨b, e2, h⟩ | h
    · rw [e1] at hx; rw [e2] at hy
      obtain ⟨rfl, ha⟩ := hx
      obtain ⟨rfl, hb⟩ := hy
      have ha' := in_u8 ha
      have hb' := in_u8 hb
      cases h
      exact Bin.int (z := .bool (not (Nat.beq a b))) rfl (by decide) (by decide) rfl
    · exact binG_ok hx hy h
  · exact binG_ok hx hy h
theorem shl_u8_ok {P : Program} {ρ : Pl} {x y : G} {T : Tm} {σ : St} {v : AV} {X Y : Value} (hx : Rv ρ (x T) X) (hy : Rv ρ (y T) Y) (h : shl_u8 x y T σ = .ok v) : Bin P ρ .shl X Y v := by
  unfold shl_u8 at h
  obtain ⟨a, e1, h⟩ := onU8_some h OA.ne
  rcases onNum_or h with ⟨b, e2, h⟩ | h
  · rw [e1] at hx
    obtain ⟨rfl, ha⟩ := hx
    obtain ⟨k', rfl⟩ := Rv_num hy e2
    refine Bin.sh (z := .int .u8 (wrapF .u8 (.ofNat (Nat.shiftLeft a (Nat.min b 8))))) rfl (.inl rfl) ?_
    rw [wrapF_eq]; exact wu8_ok h
  · cases h
theorem shr_u8_ok {P : Program} {ρ : Pl} {x y : G} {T : Tm} {σ : St} {v : AV} {X Y : Value} (hx : Rv ρ (x T) X) (hy : Rv ρ (y T) Y) (h : shr_u8 x y T σ = .ok v) : Bin P ρ .shr X Y v := by
  unfold shr_u8 at h
  obtain ⟨a, e1, h⟩ := onU8_some h OA.ne
  rcases onNum_or h with ⟨b, e2, h⟩ | h
  · rw [e1] at hx
    obtain ⟨rfl, ha⟩ := hx
    obtain ⟨k', rfl⟩ := Rv_num hy e2
    cases h
    refine Bin.sh (z := .int .u8 (.ofNat (Nat.shiftRight a (Nat.min b 8)))) rfl (.inr rfl) ?_
    have e : a >>> (Nat.min b 8) ≤ a := by rw [Nat.shiftRight_eq_div_pow]; exact Nat.div_le_self _ _
    exact ⟨rfl, by show a >>> (Nat.min b 8) < _; omega⟩
  · cases h
theorem in_u32 {n : Nat} (h : n < 4294967296) : n < lim .u32 := by show n < 4294967296; omega
theorem add_u32_ok {P : Program} {ρ : Pl} {x y : G} {T : Tm} {σ : St} {v : AV} {X Y : Value} (hx : Rv ρ (x T) X) (hy : Rv ρ (y T) Y) (h : add_u32 x y T σ = .ok v) : Bin P ρ .add X Y v := by
  unfold add_u32 at h
  rcases onU32_or h with ⟨a, e1, h⟩ | h
  · rcases onU32_or h with ⟨b, e2, h⟩ | h
    · rw [e1] at hx; rw [e2] at hy
      obtain ⟨rfl, ha⟩ := hx
      obtain ⟨rfl, hb⟩ := hy
      have ha' := in_u32 ha
      have hb' := in_u32 hb
      refine Bin.int (z := .int .u32 (wrapF .u32 (.ofNat (Nat.add a b)))) rfl (by decide) (by decide) ?_
      rw [wrapF_eq]; exact wu32_ok h
    · exact binG_ok hx hy h
  · exact binG_ok hx hy h
theorem mul_u32_ok {P : Program} {ρ : Pl} {x y : G} {T : Tm} {σ : St} {v : AV} {X Y : Value} (hx : Rv ρ (x T) X) (hy : Rv ρ (y T) Y) (h : mul_u32 x y T σ = .ok v) : Bin P ρ .mul X Y v := by
  unfold mul_u32 at h
  rcases onU32_or h with ⟨a, e1, h⟩ | h
  · rcases onU32_or h with ⟨b, e2, h⟩ | h
    · rw [e1] at hx; rw [e2] at hy
      obtain ⟨rfl, ha⟩ := hx
      obtain ⟨rfl, hb⟩ := hy
      have ha' := in_u32 ha
      have hb' := in_u32 hb
      refine Bin.int (z := .int .u32 (wrapF .u32 (.ofNat (Nat.mul a b)))) rfl (by decide) (by decide) ?_
      rw [wrapF_eq]; exact wu32_ok h
    · exact binG_ok hx hy h
  · exact binG_ok hx hy h
theorem sub_u32_ok {P : Program} {ρ : Pl} {x y : G} {T : Tm} {σ : St} {v : AV} {X Y : Value} (hx : Rv ρ (x T) X) (hy : Rv ρ (y T) Y) (h : sub_u32 x y T σ = .ok v) : Bin P ρ .sub X Y v := by
  unfold sub_u32 at h
  rcases onU32_or h with ⟨a, e1, h⟩ | h
  · rcases onU32_or h with ⟨b, e2, h⟩ | h
    · rw [e1] at hx; rw [e2] at hy
      obtain ⟨rfl, ha⟩ := hx
      obtain ⟨rfl, hb⟩ := hy
      have ha' := in_u32 ha
      have hb' := in_u32 hb
      cases hc : Nat.ble b a with
      | false => rw [hc] at h; exact binG_ok (x := .u32 a) (y := .u32 b) ⟨rfl, ha⟩ ⟨rfl, hb⟩ (by rw [← e1, ← e2]; exact h)
      | true =>
        rw [hc] at h; cases h
        refine Bin.int (z := .int .u32 (wrapF .u32 (.ofNat (Nat.sub a b)))) (by show Bool.rec (motive := fun _ => Option Value) _ _ (Nat.ble b a) = _; rw [hc]) (by decide) (by decide) ?_
        have e : a - b ≤ a := Nat.sub_le a b
        rw [wrapF_eq, wrap_in (in_u32 (show Nat.sub a b < _ by show a - b < _; omega))]
        exact ⟨rfl, by show a - b < _; omega⟩
    · exact binG_ok hx hy h
  · exact binG_ok hx hy h
theorem quo_u32_ok {P : Program} {ρ : Pl} {x y : G} {T : Tm} {σ : St} {v : AV} {X Y : Value} (hx : Rv ρ (x T) X) (hy : Rv ρ (y T) Y) (h : quo_u32 x y T σ = .ok v) : Bin P ρ .quo X Y v := by
  unfold quo_u32 at h
  rcases onU32_or h with ⟨a, e1, h⟩ | h
  · rcases onU32_or h with ⟨b, e2, h⟩ | h
    · rw [e1] at hx; rw [e2] at hy
      obtain ⟨rfl, ha⟩ := hx
      obtain ⟨rfl, hb⟩ := hy
      have ha' := in_u32 ha
      have hb' := in_u32 hb
      cases hc : Nat.beq b 0 with
      | true => rw [hc] at h; cases h
      | false =>
        rw [hc] at h; cases h
        refine Bin.int (z := .int .u32 (wrapF .u32 (.ofNat (Nat.div a b)))) (by show Bool.rec (motive := fun _ => Option Value) _ _ (Nat.beq b 0) = _; rw [hc]) (by decide) (by decide) ?_
        have e : a / b ≤ a := Nat.div_le_self a b
        rw [wrapF_eq, wrap_in (in_u32 (show Nat.div a b < _ by show a / b < _; omega))]
        exact ⟨rfl, by show a / b < _; omega⟩
    · exact binG_ok hx hy h
  · exact binG_ok hx hy h
theorem rem_u32_ok {P : Program} {ρ : Pl} {x y : G} {T : Tm} {σ : St} {v : AV} {X Y : Value} (hx : Rv ρ (x T) X) (hy : Rv ρ (y T) Y) (h : rem_u32 x y T σ = .ok v) : Bin P ρ .rem X Y v := by
  unfold rem_u32 at h
  rcases onU32_or h with ⟨a, e1, h⟩ | h
  · rcases onU32_or h with ⟨b, e2, h⟩ | h
    · rw [e1] at hx; rw [e2] at hy
      obtain ⟨rfl, ha⟩ := hx
      obtain ⟨rfl, hb⟩ := hy
      have ha' := in_u32 ha
      have hb' := in_u32 hb
      cases hc : Nat.beq b 0 with
      | true => rw [hc] at h; cases h
      | false =>
        rw [hc] at h; cases h
        refine Bin.int (z := .int .u32 (.ofNat (Nat.mod a b))) (by show Bool.rec (motive := fun _ => Option Value) _ _ (Nat.beq b 0) = _; rw [hc]) (by decide) (by decide) ?_
        have e : a % b ≤ a := Nat.mod_le a b
        exact ⟨rfl, by show a % b < _; omega⟩
    · exact binG_ok hx hy h
  · exact binG_ok hx hy h
theorem and_u32_ok {P : Program} {ρ : Pl} {x y : G} {T : Tm} {σ : St} {v : AV} {X Y : Value} (hx : Rv ρ (x T) X) (hy : Rv ρ (y T) Y) (h : and_u32 x y T σ = .ok v) : Bin P ρ .and X Y v := by
  unfold and_u32 at h
  rcases onU32_or h with ⟨a, e1, h⟩ | h
  · rcases onU32_or h with ⟨b, e2, h⟩ | h
    · rw [e1] at hx; rw [e2] at hy
      obtain ⟨rfl, ha⟩ := hx
      obtain ⟨rfl, hb⟩ := hy
      have ha' := in_u32 ha
      have hb' := in_u32 hb
      cases h
      refine Bin.int (z := .int .u32 (wrapF .u32 (.ofNat (Nat.land (modK .u32 a) (modK .u32 b))))) rfl (by decide) (by decide) ?_
      rw [modK_in ha', modK_in hb']
      have e : Nat.land a b < 2 ^ 32 := Nat.and_lt_two_pow a (n := 32) (by omega)
      have e' : Nat.land a b < lim .u32 := by show _ < 4294967296; omega
      rw [wrapF_eq, wrap_in e']
      exact ⟨rfl, by omega⟩
    · exact binG_ok hx hy h
  · exact binG_ok hx hy h
theorem or_u32_ok {P : Program} {ρ : Pl} {x y : G} {T : Tm} {σ : St} {v : AV} {X Y : Value} (hx : Rv ρ (x T) X) (hy : Rv ρ (y T) Y) (h : or_u32 x y T σ = .ok v) : Bin P ρ .or X Y v := by
  unfold or_u32 at h
  rcases onU32_or h with ⟨a, e1, h⟩ | h
  · rcases onU32_or h with ⟨b, e2, h⟩ | h
    · rw [e1] at hx; rw [e2] at hy
      obtain ⟨rfl, ha⟩ := hx
      obtain ⟨rfl, hb⟩ := hy
      have ha' := in_u32 ha
      have hb' := in_u32 hb
      cases h
      refine Bin.int (z := .int .u32 (wrapF .u32 (.ofNat (Nat.lor (modK .u32 a) (modK .u32 b))))) rfl (by decide) (by decide) ?_
      rw [modK_in ha', modK_in hb']
      have e : Nat.lor a b < 2 ^ 32 := Nat.or_lt_two_pow (n := 32) (by omega) (by omega)
      have e' : Nat.lor a b < lim .u32 := by show _ < 4294967296; omega
      rw [wrapF_eq, wrap_in e']
      exact ⟨rfl, by omega⟩
    · exact binG_ok hx hy h
  · exact binG_ok hx hy h
theorem xor_u32_ok {P : Program} {ρ : Pl} {x y : G} {T : Tm} {σ : St} {v : AV} {X Y : Value} (hx : Rv ρ (x T) X) (hy : Rv ρ (y T) Y) (h : xor_u32 x y T σ = .ok v) : Bin P ρ .xor X Y v := by
  unfold xor_u32 at h
  rcases onU32_or h with ⟨a, e1, h⟩ | h
  · rcases onU32_or h with ⟨b, e2, h⟩ | h
    · rw [e1] at hx; rw [e2] at hy
      obtain ⟨rfl, ha⟩ := hx
      obtain ⟨rfl, hb⟩ := hy
      have ha' := in_u32 ha
      have hb' := in_u32 hb
      cases h
      refine Bin.int (z := .int .u32 (wrapF .u32 (.ofNat (Nat.xor (modK .u32 a) (modK .u32 b))))) rfl (by decide) (by decide) ?_
      rw [modK_in ha', modK_in hb']
      have e : Nat.xor a b < 2 ^ 32 := Nat.xor_lt_two_pow (n := 32) (by omega) (by omega)
      have e' : Nat.xor a b < lim .u32 := by show _ < 4294967296; omega
      rw [wrapF_eq, wrap_in e']
      exact ⟨rfl, by omega⟩
    · exact binG_ok hx hy h
  · exact binG_ok hx hy h
theorem lss_u32_ok {P : Program} {ρ : Pl} {x y : G} {T : Tm} {σ : St} {v : AV} {X Y : Value} (hx : Rv ρ (x T) X) (hy : Rv ρ (y T) Y) (h : lss_u32 x y T σ = .ok v) : Bin P ρ .lss X Y v := by
  unfold lss_u32 at h
  rcases onU32_or h with ⟨a, e1, h⟩ | h
  · rcases onU32_or h with ⟨b, e2, h⟩ | h
    · rw [e1] at hx; rw [e2] at hy
      obtain ⟨rfl, ha⟩ := hx
      obtain ⟨rfl, hb⟩ := hy
      have ha' := in_u32 ha
      have hb' := in_u32 hb
      cases h
      exact Bin.int (z := .bool (Nat.blt a b)) rfl (by decide) (by decide) rfl
    · exact binG_ok hx hy h
  · exact binG_ok hx hy h
theorem leq_u32_ok {P : Program} {ρ : Pl} {x y : G} {T : Tm} {σ : St} {v : AV} {X Y : Value} (hx : Rv ρ (x T) X) (hy : Rv ρ (y T) Y) (h : leq_u32 x y T σ = .ok v) : Bin P ρ .leq X Y v := by
  unfold leq_u32 at h
  rcases onU32_or h with ⟨a, e1, h⟩ | h
  · rcases onU32_or h with ⟨b, e2, h⟩ | h
    · rw [e1] at hx; rw [e2] at hy
      obtain ⟨rfl, ha⟩ := hx
      obtain ⟨rfl, hb⟩ := hy
      have ha' := in_u32 ha
      have hb' := in_u32 hb
      cases h
      exact Bin.int (z := .bool (Nat.ble a b)) rfl (by decide) (by decide) rfl
    · exact binG_ok hx hy h
  · exact binG_ok hx hy h
theorem gtr_u32_ok {P : Program} {ρ : Pl} {x y : G} {T : Tm} {σ : St} {v : AV} {X Y : Value} (hx : Rv ρ (x T) X) (hy : Rv ρ (y T) Y) (h : gtr_u32 x y T σ = .ok v) : Bin P ρ .gtr X Y v := by
  unfold gtr_u32 at h
  rcases onU32_or h with ⟨a, e1, h⟩ | h
  · rcases onU32_or h with ⟨b, e2, h⟩ | h
    · rw [e1] at hx; rw [e2] at hy
      obtain ⟨rfl, ha⟩ := hx
      obtain ⟨rfl, hb⟩ := hy
      have ha' := in_u32 ha
      have hb' := in_u32 hb
      cases h
      exact Bin.int (z := .bool (Nat.blt b a)) rfl (by decide) (by decide) rfl
    · exact binG_ok hx hy h
  · exact binG_ok hx hy h
theorem geq_u32_ok {P : Program} {ρ : Pl} {x y : G} {T : Tm} {σ : St} {v : AV} {X Y : Value} (hx : Rv ρ (x T) X) (hy : Rv ρ (y T) Y) (h : geq_u32 x y T σ = .ok v) : Bin P ρ .geq X Y v := by
  unfold geq_u32 at h
  rcases onU32_or h with ⟨a, e1, h⟩ | h
  · rcases onU32_or h with ⟨b, e2, h⟩ | h
    · rw [e1] at hx; rw [e2] at hy
      obtain ⟨rfl, ha⟩ := hx
      obtain ⟨rfl, hb⟩ := hy
      have ha' := in_u32 ha
      have hb' := in_u32 hb
      cases h
      exact Bin.int (z := .bool (Nat.ble b a)) rfl (by decide) (by decide) rfl
    · exact binG_ok hx hy h
  · exact binG_ok hx hy h
theorem eql_u32_ok {P : Program} {ρ : Pl} {x y : G} {T : Tm} {σ : St} {v : AV} {X Y : Value} (hx : Rv ρ (x T) X) (hy : Rv ρ (y T) Y) (h : eql_u32 x y T σ = .ok v) : Bin P ρ .eql X Y v := by
  unfold eql_u32 at h
  rcases onU32_or h with ⟨a, e1, h⟩ | h
  · rcases onU32_or h with ⟨b, e2, h⟩ | h
    · rw [e1] at hx; rw [e2] at hy
      obtain ⟨rfl, ha⟩ := hx
      obtain ⟨rfl, hb⟩ := hy
      have ha' := in_u32 ha
      have hb' := in_u32 hb
      cases h
      exact Bin.int (z := .bool (Nat.beq a b)) rfl (by decide) (by decide) rfl
    · exact binG_ok hx hy h
  · exact binG_ok hx hy h
theorem neq_u32_ok {P : Program} {ρ : Pl} {x y : G} {T : Tm} {σ : St} {v : AV} {X Y : Value} (hx : Rv ρ (x T) X) (hy : Rv ρ (y T) Y) (h : neq_u32 x y T σ = .ok v) : Bin P ρ .neq X Y v := by
  unfold neq_u32 at h
  rcases onU32_or h with ⟨a, e1, h⟩ | h
  · rcases onU32_or h with ⟨b, e2, h⟩ | h
    · rw [e1] at hx; rw [e2] at hy
      obtain ⟨rfl, ha⟩ := hx
      obtain ⟨rfl, hb⟩ := hy
      have ha' := in_u32 ha
      have hb' := in_u32 hb
      cases h
      exact Bin.int (z := .bool (not (Nat.beq a b))) rfl (by decide) (by decide) rfl
    · exact binG_ok hx hy h
  · exact binG_ok hx hy h
theorem shl_u32_ok {P : Program} {ρ : Pl} {x y : G} {T : Tm} {σ : St} {v : AV} {X Y : Value} (hx : Rv ρ (x T) X) (hy : Rv ρ (y T) Y) (h : shl_u32 x y T σ = .ok v) : Bin P ρ .shl X Y v := by
  unfold shl_u32 at h
  obtain ⟨a, e1, h⟩ := onU32_some h OA.ne
  rcases onNum_or h with ⟨b, e2, h⟩ | h
  · rw [e1] at hx
    obtain ⟨rfl, ha⟩ := hx
    obtain ⟨k', rfl⟩ := Rv_num hy e2
    refine Bin.sh (z := .int .u32 (wrapF .u32 (.ofNat (Nat.shiftLeft a (Nat.min b 32))))) rfl (.inl rfl) ?_
    rw [wrapF_eq]; exact wu32_ok h
  · cases h
theorem shr_u32_ok {P : Program} {ρ : Pl} {x y : G} {T : Tm} {σ : St} {v : AV} {X Y : Value} (hx : Rv ρ (x T) X) (hy : Rv ρ (y T) Y) (h : shr_u32 x y T σ = .ok v) : Bin P ρ .shr X Y v := by
  unfold shr_u32 at h
  obtain ⟨a, e1, h⟩ := onU32_some h OA.ne
  rcases onNum_or h with ⟨b, e2, h⟩ | h
  · rw [e1] at hx
    obtain ⟨rfl, ha⟩ := hx
    obtain ⟨k', rfl⟩ := Rv_num hy e2
    cases h
    refine Bin.sh (z := .int .u32 (.ofNat (Nat.shiftRight a (Nat.min b 32)))) rfl (.inr rfl) ?_
    have e : a >>> (Nat.min b 32) ≤ a := by rw [Nat.shiftRight_eq_div_pow]; exact Nat.div_le_self _ _
    exact ⟨rfl, by show a >>> (Nat.min b 32) < _; omega⟩
  · cases h
theorem in_i32 {n : Nat} (h : n ≤ 2147483647) : n < lim .i32 := by show n < 2147483648; omega
theorem add_i32_ok {P : Program} {ρ : Pl} {x y : G} {T : Tm} {σ : St} {v : AV} {X Y : Value} (hx : Rv ρ (x T) X) (hy : Rv ρ (y T) Y) (h : add_i32 x y T σ = .ok v) : Bin P ρ .add X Y v := by
  unfold add_i32 at h
  rcases onI32_or h with ⟨a, e1, h⟩ | h
  · rcases onI32_or h with ⟨b, e2, h⟩ | h
    · rw [e1] at hx; rw [e2] at hy
      obtain ⟨rfl, ha⟩ := hx
      obtain ⟨rfl, hb⟩ := hy
      have ha' := in_i32 ha
      have hb' := in_i32 hb
      refine Bin.int (z := .int .i32 (wrapF .i32 (.ofNat (Nat.add a b)))) rfl (by decide) (by decide) ?_
      rw [wrapF_eq]; exact w32_ok h
    · exact binG_ok hx hy h
  · exact binG_ok hx hy h
theorem mul_i32_ok {P : Program} {ρ : Pl} {x y : G} {T : Tm} {σ : St} {v : AV} {X Y : Value} (hx : Rv ρ (x T) X) (hy : Rv ρ (y T) Y) (h : mul_i32 x y T σ = .ok v) : Bin P ρ .mul X Y v := by
  unfold mul_i32 at h
  rcases onI32_or h with ⟨a, e1, h⟩ | h
  · rcases onI32_or h with ⟨b, e2, h⟩ | h
    · rw [e1] at hx; rw [e2] at hy
      obtain ⟨rfl, ha⟩ := hx
      obtain ⟨rfl, hb⟩ := hy
      have ha' := in_i32 ha
      have hb' := in_i32 hb
      refine Bin.int (z := .int .i32 (wrapF .i32 (.ofNat (Nat.mul a b)))) rfl (by decide) (by decide) ?_
      rw [wrapF_eq]; exact w32_ok h
    · exact binG_ok hx hy h
  · exact binG_ok hx hy h
theorem sub_i32_ok {P : Program} {ρ : Pl} {x y : G} {T : Tm} {σ : St} {v : AV} {X Y : Value} (hx : Rv ρ (x T) X) (hy : Rv ρ (y T) Y) (h : sub_i32 x y T σ = .ok v) : Bin P ρ .sub X Y v := by
  unfold sub_i32 at h
  rcases onI32_or h with ⟨a, e1, h⟩ | h
  · rcases onI32_or h with ⟨b, e2, h⟩ | h
    · rw [e1] at hx; rw [e2] at hy
      obtain ⟨rfl, ha⟩ := hx
      obtain ⟨rfl, hb⟩ := hy
      have ha' := in_i32 ha
      have hb' := in_i32 hb
      cases hc : Nat.ble b a with
      | false => rw [hc] at h; exact binG_ok (x := .i32 a) (y := .i32 b) ⟨rfl, ha⟩ ⟨rfl, hb⟩ (by rw [← e1, ← e2]; exact h)
      | true =>
        rw [hc] at h; cases h
        refine Bin.int (z := .int .i32 (wrapF .i32 (.ofNat (Nat.sub a b)))) (by show Bool.rec (motive := fun _ => Option Value) _ _ (Nat.ble b a) = _; rw [hc]) (by decide) (by decide) ?_
        have e : a - b ≤ a := Nat.sub_le a b
        rw [wrapF_eq, wrap_in (in_i32 (show Nat.sub a b ≤ _ by show a - b ≤ _; omega))]
        exact ⟨rfl, by show a - b ≤ _; omega⟩
    · exact binG_ok hx hy h
  · exact binG_ok hx hy h
theorem quo_i32_ok {P : Program} {ρ : Pl} {x y : G} {T : Tm} {σ : St} {v : AV} {X Y : Value} (hx : Rv ρ (x T) X) (hy : Rv ρ (y T) Y) (h : quo_i32 x y T σ = .ok v) : Bin P ρ .quo X Y v := by
  unfold quo_i32 at h
  rcases onI32_or h with ⟨a, e1, h⟩ | h
  · rcases onI32_or h with ⟨b, e2, h⟩ | h
    · rw [e1] at hx; rw [e2] at hy
      obtain ⟨rfl, ha⟩ := hx
      obtain ⟨rfl, hb⟩ := hy
      have ha' := in_i32 ha
      have hb' := in_i32 hb
      cases hc : Nat.beq b 0 with
      | true => rw [hc] at h; cases h
      | false =>
        rw [hc] at h; cases h
        refine Bin.int (z := .int .i32 (wrapF .i32 (.ofNat (Nat.div a b)))) (by show Bool.rec (motive := fun _ => Option Value) _ _ (Nat.beq b 0) = _; rw [hc]) (by decide) (by decide) ?_
        have e : a / b ≤ a := Nat.div_le_self a b
        rw [wrapF_eq, wrap_in (in_i32 (show Nat.div a b ≤ _ by show a / b ≤ _; omega))]
        exact ⟨rfl, by show a / b ≤ _; omega⟩
    · exact binG_ok hx hy h
  · exact binG_ok hx hy h
theorem rem_i32_ok {P : Program} {ρ : Pl} {x y : G} {T : Tm} {σ : St} {v : AV} {X Y : Value} (hx : Rv ρ (x T) X) (hy : Rv ρ (y T) Y) (h : rem_i32 x y T σ = .ok v) : Bin P ρ .rem X Y v := by
  unfold rem_i32 at h
  rcases onI32_or h with ⟨a, e1, h⟩ | h
  · rcases onI32_or h with ⟨b, e2, h⟩ | h
    · rw [e1] at hx; rw [e2] at hy
      obtain ⟨rfl, ha⟩ := hx
      obtain ⟨rfl, hb⟩ := hy
      have ha' := in_i32 ha
      have hb' := in_i32 hb
      cases hc : Nat.beq b 0 with
      | true => rw [hc] at h; cases h
      | false =>
        rw [hc] at h; cases h
        refine Bin.int (z := .int .i32 (.ofNat (Nat.mod a b))) (by show Bool.rec (motive := fun _ => Option Value) _ _ (Nat.beq b 0) = _; rw [hc]) (by decide) (by decide) ?_
        have e : a % b ≤ a := Nat.mod_le a b
        exact ⟨rfl, by show a % b ≤ _; omega⟩
    · exact binG_ok hx hy h
  · exact binG_ok hx hy h
theorem and_i32_ok {P : Program} {ρ : Pl} {x y : G} {T : Tm} {σ : St} {v : AV} {X Y : Value} (hx : Rv ρ (x T) X) (hy : Rv ρ (y T) Y) (h : and_i32 x y T σ = .ok v) : Bin P ρ .and X Y v := by
  unfold and_i32 at h
  rcases onI32_or h with ⟨a, e1, h⟩ | h
  · rcases onI32_or h with ⟨b, e2, h⟩ | h
    · rw [e1] at hx; rw [e2] at hy
      obtain ⟨rfl, ha⟩ := hx
      obtain ⟨rfl, hb⟩ := hy
      have ha' := in_i32 ha
      have hb' := in_i32 hb
      cases h
      refine Bin.int (z := .int .i32 (wrapF .i32 (.ofNat (Nat.land (modK .i32 a) (modK .i32 b))))) rfl (by decide) (by decide) ?_
      rw [modK_in ha', modK_in hb']
      have e : Nat.land a b < 2 ^ 31 := Nat.and_lt_two_pow a (n := 31) (by omega)
      have e' : Nat.land a b < lim .i32 := by show _ < 2147483648; omega
      rw [wrapF_eq, wrap_in e']
      exact ⟨rfl, by omega⟩
    · exact binG_ok hx hy h
  · exact binG_ok hx hy h
theorem or_i32_ok {P : Program} {ρ : Pl} {x y : G} {T : Tm} {σ : St} {v : AV} {X Y : Value} (hx : Rv ρ (x T) X) (hy : Rv ρ (y T) Y) (h : or_i32 x y T σ = .ok v) : Bin P ρ .or X Y v := by
  unfold or_i32 at h
  rcases onI32_or h with ⟨a, e1, h⟩ | h
  · rcases onI32_or h with ⟨b, e2, h⟩ | h
    · rw [e1] at hx; rw [e2] at hy
      obtain ⟨rfl, ha⟩ := hx
      obtain ⟨rfl, hb⟩ := hy
      have ha' := in_i32 ha
      have hb' := in_i32 hb
      cases h
      refine Bin.int (z := .int .i32 (wrapF .i32 (.ofNat (Nat.lor (modK .i32 a) (modK .i32 b))))) rfl (by decide) (by decide) ?_
      rw [modK_in ha', modK_in hb']
      have e : Nat.lor a b < 2 ^ 31 := Nat.or_lt_two_pow (n := 31) (by omega) (by omega)
      have e' : Nat.lor a b < lim .i32 := by show _ < 2147483648; omega
      rw [wrapF_eq, wrap_in e']
      exact ⟨rfl, by omega⟩
    · exact binG_ok hx hy h
  · exact binG_ok hx hy h
theorem xor_i32_ok {P : Program} {ρ : Pl} {x y : G} {T : Tm} {σ : St} {v : AV} {X Y : Value} (hx : Rv ρ (x T) X) (hy : Rv ρ (y T) Y) (h : xor_i32 x y T σ = .ok v) : Bin P ρ .xor X Y v := by
  unfold xor_i32 at h
  rcases onI32_or h with ⟨a, e1, h⟩ | h
  · rcases onI32_or h with ⟨b, e2, h⟩ | h
    · rw [e1] at hx; rw [e2] at hy
      obtain ⟨rfl, ha⟩ := hx
      obtain ⟨rfl, hb⟩ := hy
      have ha' := in_i32 ha
      have hb' := in_i32 hb
      cases h
      refine Bin.int (z := .int .i32 (wrapF .i32 (.ofNat (Nat.xor (modK .i32 a) (modK .i32 b))))) rfl (by decide) (by decide) ?_
      rw [modK_in ha', modK_in hb']
      have e : Nat.xor a b < 2 ^ 31 := Nat.xor_lt_two_pow (n := 31) (by omega) (by omega)
      have e' : Nat.xor a b < lim .i32 := by show _ < 2147483648; omega
      rw [wrapF_eq, wrap_in e']
      exact ⟨rfl, by omega⟩
    · exact binG_ok hx hy h
  · exact binG_ok hx hy h
theorem lss_i32_ok {P : Program} {ρ : Pl} {x y : G} {T : Tm} {σ : St} {v : AV} {X Y : Value} (hx : Rv ρ (x T) X) (hy : Rv ρ (y T) Y) (h : lss_i32 x y T σ = .ok v) : Bin P ρ .lss X Y v := by
  unfold lss_i32 at h
  rcases onI32_or h with ⟨a, e1, h⟩ | h
  · rcases onI32_or h with ⟨b, e2, h⟩ | h
    · rw [e1] at hx; rw [e2] at hy
      obtain ⟨rfl, ha⟩ := hx
      obtain ⟨rfl, hb⟩ := hy
      have ha' := in_i32 ha
      have hb' := in_i32 hb
      cases h
      exact Bin.int (z := .bool (Nat.blt a b)) rfl (by decide) (by decide) rfl
    · exact binG_ok hx hy h
  · exact binG_ok hx hy h
theorem leq_i32_ok {P : Program} {ρ : Pl} {x y : G} {T : Tm} {σ : St} {v : AV} {X Y : Value} (hx : Rv ρ (x T) X) (hy : Rv ρ (y T) Y) (h : leq_i32 x y T σ = .ok v) : Bin P ρ .leq X Y v := by
  unfold leq_i32 at h
  rcases onI32_or h with ⟨a, e1, h⟩ | h
  · rcases onI32_or h with ⟨b, e2, h⟩ | h
    · rw [e1] at hx; rw [e2] at hy
      obtain ⟨rfl, ha⟩ := hx
      obtain ⟨rfl, hb⟩ := hy
      have ha' := in_i32 ha
      have hb' := in_i32 hb
      cases h
      exact Bin.int (z := .bool (Nat.ble a b)) rfl (by decide) (by decide) rfl
    · exact binG_ok hx hy h
  · exact binG_ok hx hy h
theorem gtr_i32_ok {P : Program} {ρ : Pl} {x y : G} {T : Tm} {σ : St} {v : AV} {X Y : Value} (hx : Rv ρ (x T) X) (hy : Rv ρ (y T) Y) (h : gtr_i32 x y T σ = .ok v) : Bin P ρ .gtr X Y v := by
  unfold gtr_i32 at h
  rcases onI32_or h with ⟨a, e1, h⟩ | h
  · rcases onI32_or h with ⟨b, e2, h⟩ | h
    · rw [e1] at hx; rw [e2] at hy
      obtain ⟨rfl, ha⟩ := hx
      obtain ⟨rfl, hb⟩ := hy
      have ha' := in_i32 ha
      have hb' := in_i32 hb
      cases h
      exact Bin.int (z := .bool (Nat.blt b a)) rfl (by decide) (by decide) rfl
    · exact binG_ok hx hy h
  · exact binG_ok hx hy h
theorem geq_i32_ok {P : Program} {ρ : Pl} {x y : G} {T : Tm} {σ : St} {v : AV} {X Y : Value} (hx : Rv ρ (x T) X) (hy : Rv ρ (y T) Y) (h : geq_i32 x y T σ = .ok v) : Bin P ρ .geq X Y v := by
  unfold geq_i32 at h
  rcases onI32_or h with ⟨a, e1, h⟩ | h
  · rcases onI32_or h with ⟨b, e2, h⟩ | h
    · rw [e1] at hx; rw [e2] at hy
      obtain ⟨rfl, ha⟩ := hx
      obtain ⟨rfl, hb⟩ := hy
      have ha' := in_i32 ha
      have hb' := in_i32 hb
      cases h
      exact Bin.int (z := .bool (Nat.ble b a)) rfl (by decide) (by decide) rfl
    · exact binG_ok hx hy h
  · exact binG_ok hx hy h
theorem eql_i32_ok {P : Program} {ρ : Pl} {x y : G} {T : Tm} {σ : St} {v : AV} {X Y : Value} (hx : Rv ρ (x T) X) (hy : Rv ρ (y T) Y) (h : eql_i32 x y T σ = .ok v) : Bin P ρ .eql X Y v := by
  unfold eql_i32 at h
  rcases onI32_or h with ⟨a, e1, h⟩ | h
  · rcases onI32_or h with ⟨b, e2, h⟩ | h
    · rw [e1] at hx; rw [e2] at hy
      obtain ⟨rfl, ha⟩ := hx
      obtain ⟨rfl, hb⟩ := hy
      have ha' := in_i32 ha
      have hb' := in_i32 hb
      cases h
      exact Bin.int (z := .bool (Nat.beq a b)) rfl (by decide) (by decide) rfl
    · exact binG_ok hx hy h
  · exact binG_ok hx hy h
theorem neq_i32_ok {P : Program} {ρ : Pl} {x y : G} {T : Tm} {σ : St} {v : AV} {X Y : Value} (hx : Rv ρ (x T) X) (hy : Rv ρ (y T) Y) (h : neq_i32 x y T σ = .ok v) : Bin P ρ .neq X Y v := by
  unfold neq_i32 at h
  rcases onI32_or h with ⟨a, e1, h⟩ | h
  · rcases onI32_or h with ⟨b, e2, h⟩ | h
    · rw [e1] at hx; rw [e2] at hy
      obtain ⟨rfl, ha⟩ := hx
      obtain ⟨rfl, hb⟩ := hy
      have ha' := in_i32 ha
      have hb' := in_i32 hb
      cases h
      exact Bin.int (z := .bool (not (Nat.beq a b))) rfl (by decide) (by decide) rfl
    · exact binG_ok hx hy h
  · exact binG_ok hx hy h
theorem shl_i32_ok {P : Program} {ρ : Pl} {x y : G} {T : Tm} {σ : St} {v : AV} {X Y : Value} (hx : Rv ρ (x T) X) (hy : Rv ρ (y T) Y) (h : shl_i32 x y T σ = .ok v) : Bin P ρ .shl X Y v := by
  unfold shl_i32 at h
  obtain ⟨a, e1, h⟩ := onI32_some h OA.ne
  rcases onNum_or h with ⟨b, e2, h⟩ | h
  · rw [e1] at hx
    obtain ⟨rfl, ha⟩ := hx
    obtain ⟨k', rfl⟩ := Rv_num hy e2
    refine Bin.sh (z := .int .i32 (wrapF .i32 (.ofNat (Nat.shiftLeft a (Nat.min b 32))))) rfl (.inl rfl) ?_
    rw [wrapF_eq]; exact w32_ok h
  · cases h
theorem shr_i32_ok {P : Program} {ρ : Pl} {x y : G} {T : Tm} {σ : St} {v : AV} {X Y : Value} (hx : Rv ρ (x T) X) (hy : Rv ρ (y T) Y) (h : shr_i32 x y T σ = .ok v) : Bin P ρ .shr X Y v := by
  unfold shr_i32 at h
  obtain ⟨a, e1, h⟩ := onI32_some h OA.ne
  rcases onNum_or h with ⟨b, e2, h⟩ | h
  · rw [e1] at hx
    obtain ⟨rfl, ha⟩ := hx
    obtain ⟨k', rfl⟩ := Rv_num hy e2
    cases h
    refine Bin.sh (z := .int .i32 (.ofNat (Nat.shiftRight a (Nat.min b 32)))) rfl (.inr rfl) ?_
    have e : a >>> (Nat.min b 32) ≤ a := by rw [Nat.shiftRight_eq_div_pow]; exact Nat.div_le_self _ _
    exact ⟨rfl, by show a >>> (Nat.min b 32) ≤ _; omega⟩
  · cases h
end Go.Proofs.YtaogloegiffioaaGreatDoor
namespace Go.Proofs.YtaogloegiffioaaGreatDoor
def dg (l n i : Nat) : UInt8 := UInt8.ofNat (bitsAt 8 l n i 1)
theorem strOf_list (l n : Nat) : (strOf l n).data.toList = (List.range l).map (dg l n) := by simp [strOf, dg]
theorem strOf_toList (l n : Nat) : (strOf l n).toList = (List.range l).map (dg l n) := by rw [ByteArray.toList_eq]; exact strOf_list l n
theorem strOf_size (l n : Nat) : (strOf l n).size = l := by
  show (strOf l n).data.size = l
  rw [← Array.length_toList, strOf_list]; simp
def num : List UInt8 → Nat
  | [] => 0
  | d :: r => d.toNat * 256 ^ r.length + num r
theorem num_lt : ∀ l : List UInt8, num l < 256 ^ l.length
  | [] => by simp [num]
  | d :: r => by
    have := num_lt r
    have hd := d.toNat_lt
    rw [num, List.length_cons, Nat.pow_succ]
    have : (d.toNat + 1) * 256 ^ r.length ≤ 256 * 256 ^ r.length := Nat.mul_le_mul_right _ (by omega)
    rw [Nat.add_mul] at this; omega
theorem pow256 (l : Nat) : 256 ^ l = 2 ^ (8 * l) := by rw [Nat.pow_mul]
theorem digits_succ (l n : Nat) : (List.range (l + 1)).map (dg (l + 1) n) = UInt8.ofNat (n / 256 ^ l % 256) :: (List.range l).map (dg l (n % 256 ^ l)) := by
  rw [List.range_succ_eq_map, List.map_cons, List.map_map]
  congr 1
  · show UInt8.ofNat _ = _
    rw [bitsAt_eq, pow256]; congr 2
  · refine List.map_congr_left fun i hi => ?_
    have hi : i < l := by simpa using hi
    show UInt8.ofNat (bitsAt 8 (l + 1) n (i + 1) 1) = UInt8.ofNat (bitsAt 8 l (n % 256 ^ l) i 1)
    congr 1
    have e : bitsAt 8 (l + 1) n 1 l = n % 256 ^ l := by
      rw [bitsAt_eq, show l + 1 - (1 + l) = 0 by omega, Nat.mul_zero, Nat.pow_zero, Nat.div_one, pow256]
    have := bits_sub (w := 8) (n := l + 1) (m := n) (o := 1) (l := l) (i := i) (j := 1) (by omega) (by omega)
    rw [e] at this
    rw [this, Nat.add_comm 1 i]
theorem num_digits : ∀ (l n : Nat), n < 256 ^ l → num ((List.range l).map (dg l n)) = n
  | 0, n, h => by simp at h; subst h; rfl
  | l + 1, n, h => by
    rw [digits_succ, num, num_digits l _ (Nat.mod_lt _ (Nat.pow_pos (by omega)))]
    have h2 : n / 256 ^ l < 256 := by rw [Nat.div_lt_iff_lt_mul (Nat.pow_pos (by omega)), Nat.mul_comm]; rw [Nat.pow_succ] at h; exact h
    rw [Nat.mod_eq_of_lt h2]
    simp only [List.length_map, List.length_range]
    rw [show (UInt8.ofNat (n / 256 ^ l)).toNat = n / 256 ^ l from by rw [UInt8.toNat_ofNat']; exact Nat.mod_eq_of_lt h2]
    rw [Nat.mul_comm]; exact Nat.div_add_mod n (256 ^ l)
theorem strOf_num {l n : Nat} (h : n < 2 ^ (8 * l)) : num (strOf l n).toList = n := by
  rw [strOf_toList]; exact num_digits l n (by rw [pow256]; exact h)
theorem strOf_eq {l n m k : Nat} (h : n < 2 ^ (8 * l)) (g : k < 2 ^ (8 * m)) : (strOf l n).toList = (strOf m k).toList ↔ l = m ∧ n = k := by
  constructor
  · intro e
    have e1 : l = m := by
      have := congrArg List.length e
      rw [strOf_toList, strOf_toList] at this
      simpa using this
    refine ⟨e1, ?_⟩
    have := congrArg num e
    rwa [strOf_num h, strOf_num g] at this
  · rintro ⟨rfl, rfl⟩; rfl
theorem eqSB_eq (l n m k : Nat) : eqSB l n m k = decide (l = m ∧ n = k) := by
  unfold eqSB
  by_cases h : l = m
  · subst h
    rw [show Nat.beq l l = true from by simp, show Nat.beq n k = decide (n = k) from by rw [beq_dec]]
    simp
  · rw [show Nat.beq l m = false from by rw [beq_dec]; simp [h]]; simp [h]
theorem eq_toList {l n m k : Nat} (h : n < 2 ^ (8 * l)) (g : k < 2 ^ (8 * m)) : ((strOf l n).toList == (strOf m k).toList) = eqSB l n m k := by
  rw [eqSB_eq]
  by_cases e : l = m ∧ n = k
  · rw [decide_eq_true e, beq_iff_eq.2 ((strOf_eq h g).2 e)]
  · rw [decide_eq_false e]
    exact beq_eq_false_iff_ne.2 fun c => e ((strOf_eq h g).1 c)
theorem lex_num {B a b x y : Nat} (hx : x < B) (hy : y < B) : (a * B + x < b * B + y) ↔ (a < b ∨ (a = b ∧ x < y)) := by
  rcases Nat.lt_trichotomy a b with h | h | h
  · have : (a + 1) * B ≤ b * B := Nat.mul_le_mul_right _ h
    rw [Nat.add_mul] at this
    exact ⟨fun _ => .inl h, fun _ => by omega⟩
  · subst h; constructor
    · intro h; exact .inr ⟨rfl, by omega⟩
    · rintro (h | ⟨_, h⟩) <;> omega
  · have : (b + 1) * B ≤ a * B := Nat.mul_le_mul_right _ h
    rw [Nat.add_mul] at this
    constructor
    · intro _; omega
    · rintro (h | ⟨h, _⟩) <;> omega
theorem lex_eq {B a b x y : Nat} (hx : x < B) (hy : y < B) : (a * B + x = b * B + y) ↔ (a = b ∧ x = y) := by
  constructor
  · intro e
    have h1 := (lex_num (a := a) (b := b) hx hy)
    have h2 := (lex_num (a := b) (b := a) hy hx)
    have : a = b := by
      rcases Nat.lt_trichotomy a b with h | h | h
      · have := h1.2 (.inl h); omega
      · exact h
      · have := h2.2 (.inl h); omega
    subst this; exact ⟨rfl, by omega⟩
  · rintro ⟨rfl, rfl⟩; rfl
theorem less_num : ∀ (xs ys : List UInt8) (M : Nat), xs.length ≤ M → ys.length ≤ M →
    (Op.bytesLess xs ys = true ↔ (num xs * 256 ^ (M - xs.length) < num ys * 256 ^ (M - ys.length) ∨ (num xs * 256 ^ (M - xs.length) = num ys * 256 ^ (M - ys.length) ∧ xs.length < ys.length)))
  | xs, [], M, _, _ => by
    simp only [num, Nat.zero_mul, List.length_nil, Nat.not_lt_zero, and_false, or_false, iff_false]
    cases xs <;> simp [Op.bytesLess]
  | [], y :: ys, M, _, _ => by
    simp only [Op.bytesLess, num, Nat.zero_mul, List.length_nil, true_iff]
    rcases Nat.eq_zero_or_pos ((y.toNat * 256 ^ ys.length + num ys) * 256 ^ (M - (y :: ys).length)) with h | h
    · exact .inr ⟨h.symm, by simp⟩
    · exact .inl h
  | x :: xs, y :: ys, 0, h, _ => by simp at h
  | x :: xs, y :: ys, M + 1, h1, h2 => by
    have ih := less_num xs ys M (by simpa using h1) (by simpa using h2)
    have key : ∀ (d : UInt8) (r : List UInt8), r.length ≤ M → num (d :: r) * 256 ^ (M + 1 - (d :: r).length) = d.toNat * 256 ^ M + num r * 256 ^ (M - r.length) ∧ num r * 256 ^ (M - r.length) < 256 ^ M := fun d r hr => by
      have e : M + 1 - (d :: r).length = M - r.length := by simp
      refine ⟨?_, ?_⟩
      · rw [e, num, Nat.add_mul, Nat.mul_assoc, ← Nat.pow_add]; congr 3; omega
      · have := Nat.mul_lt_mul_of_pos_right (num_lt r) (show 0 < 256 ^ (M - r.length) from Nat.pow_pos (by omega))
        rw [← Nat.pow_add] at this
        rwa [show r.length + (M - r.length) = M by omega] at this
    obtain ⟨e1, b1⟩ := key x xs (by simpa using h1)
    obtain ⟨e2, b2⟩ := key y ys (by simpa using h2)
    rw [e1, e2, lex_num b1 b2, lex_eq b1 b2]
    simp only [Op.bytesLess, Bool.or_eq_true, Bool.and_eq_true, beq_iff_eq, decide_eq_true_eq, ih, List.length_cons, Nat.add_lt_add_iff_right]
    rw [UInt8.lt_iff_toNat_lt, ← UInt8.toNat_inj]
    constructor
    · rintro (h | ⟨h, h' | ⟨h', h''⟩⟩)
      · exact .inl (.inl h)
      · exact .inl (.inr ⟨h, h'⟩)
      · exact .inr ⟨⟨h, h'⟩, h''⟩
    · rintro ((h | ⟨h, h'⟩) | ⟨⟨h, h'⟩, h''⟩)
      · exact .inl h
      · exact .inr ⟨h, .inl h'⟩
      · exact .inr ⟨h, .inr ⟨h', h''⟩⟩
theorem lsS_eq {l n m k : Nat} (h : n < 2 ^ (8 * l)) (g : k < 2 ^ (8 * m)) : Op.bytesLess (strOf l n).toList (strOf m k).toList = lsS l n m k := by
  have e := less_num (strOf l n).toList (strOf m k).toList (max l m) (by rw [strOf_toList]; simp; omega) (by rw [strOf_toList]; simp; omega)
  have l1 : (strOf l n).toList.length = l := by rw [strOf_toList]; simp
  have l2 : (strOf m k).toList.length = m := by rw [strOf_toList]; simp
  rw [strOf_num h, strOf_num g, l1, l2, pow256, pow256] at e
  show _ = Bool.rec (motive := fun _ => Bool) (Bool.rec (motive := fun _ => Bool) false (Nat.ble (Nat.succ l) m) (Nat.beq (n <<< (8 * (max l m - l))) (k <<< (8 * (max l m - m))))) true (Nat.ble (Nat.succ (n <<< (8 * (max l m - l)))) (k <<< (8 * (max l m - m))))
  rw [Nat.shiftLeft_eq, Nat.shiftLeft_eq]
  generalize n * 2 ^ (8 * (max l m - l)) = A at *
  generalize k * 2 ^ (8 * (max l m - m)) = B at *
  rw [ble_dec, beq_dec, ble_dec]
  by_cases h1 : Nat.succ A ≤ B
  · rw [decide_eq_true h1]; exact e.2 (.inl h1)
  · rw [decide_eq_false h1]
    by_cases h2 : A = B
    · rw [decide_eq_true h2]
      by_cases h3 : Nat.succ l ≤ m
      · rw [decide_eq_true h3]; exact e.2 (.inr ⟨h2, h3⟩)
      · rw [decide_eq_false h3]
        cases hb : Op.bytesLess (strOf l n).toList (strOf m k).toList with
        | false => rfl
        | true => rcases e.1 hb with h | ⟨_, h⟩ <;> omega
    · rw [decide_eq_false h2]
      cases hb : Op.bytesLess (strOf l n).toList (strOf m k).toList with
      | false => rfl
      | true => rcases e.1 hb with h | ⟨h, _⟩ <;> omega
theorem ba_ext {a b : ByteArray} (h : a.data.toList = b.data.toList) : a = b := by
  cases a; cases b; congr 1; exact Array.ext' h
theorem strOf_app {l n m k : Nat} (g : k < 2 ^ (8 * m)) : strOf l n ++ strOf m k = strOf (l + m) (Nat.add (Nat.shiftLeft n (Nat.mul 8 m)) k) := by
  refine ba_ext ?_
  rw [ByteArray.data_append, Array.toList_append, strOf_list, strOf_list, strOf_list, List.range_add, List.map_append, List.map_map]
  congr 1
  · refine List.map_congr_left fun i hi => ?_
    have hi : i < l := by simpa using hi
    show UInt8.ofNat _ = UInt8.ofNat _
    rw [bits_app_old g (by omega)]
  · refine List.map_congr_left fun i hi => ?_
    have hi : i < m := by simpa using hi
    show UInt8.ofNat _ = UInt8.ofNat (bitsAt 8 (l + m) _ (l + i) 1)
    rw [bits_app_new g (by omega)]
theorem strOf_get {l n i : Nat} (hi : i < l) : (strOf l n)[i]? = some (UInt8.ofNat (bitsAt 8 l n i 1)) := by
  have e : (strOf l n)[i]? = (strOf l n).data.toList[i]? := by
    rw [getElem?_def]
    by_cases h : i < (strOf l n).size
    · rw [dif_pos h]
      have h2 : i < (strOf l n).data.toList.length := by simpa using h
      rw [List.getElem?_eq_getElem h2]; rfl
    · rw [strOf_size] at h; omega
  rw [e, strOf_list]; simp [hi, dg]
theorem strOf_extract {l n lo hi : Nat} (h1 : lo ≤ hi) (h2 : hi ≤ l) : (strOf l n).extract lo hi = strOf (hi - lo) (bitsAt 8 l n lo (hi - lo)) := by
  refine ba_ext ?_
  rw [strOf_list, ByteArray.data_extract, Array.toList_extract, strOf_list]
  refine List.ext_getElem? fun i => ?_
  simp only [List.extract_eq_take_drop, List.getElem?_take, List.getElem?_drop, List.getElem?_map]
  by_cases hi' : i < hi - lo
  · rw [if_pos hi', List.getElem?_range (show lo + i < l by omega), List.getElem?_range hi']
    show some (UInt8.ofNat _) = some (UInt8.ofNat _)
    rw [bits_sub (by omega) (by omega)]
  · rw [if_neg hi', List.getElem?_eq_none (by simp; omega)]; rfl
theorem bin_str {P : Program} {op : BinOp} {a b : ByteArray} {t : TypeId} : (binOp op t (.string a) (.string b)).run P = (Op.stringOp op a b).run P := by
  cases op <;> first | rfl | (funext w; simp [binOp, Op.stringOp])
theorem guard_str {P : Program} (op : BinOp) (t : TypeId) (ox oy : Operand) (a b : ByteArray) (w : World) : (eqGuard op t ox oy (.string a) (.string b)).run P w = .ok () w := by cases op <;> simp [eqGuard]
theorem Bin.str {P : Program} {ρ : Pl} {op : BinOp} {a b : ByteArray} {v : AV} {z : Value} (h : ∀ w, (Op.stringOp op a b).run P w = .ok z w) (hv : Rv ρ v z) : Bin P ρ op (.string a) (.string b) v :=
  fun t ox oy w => ⟨z, by simp [guard_str, bin_str, h], hv⟩
section
variable {P : Program} {ρ : Pl} {x y : G} {T : Tm} {σ : St} {v : AV} {X Y : Value}
theorem add_s_ok (hx : Rv ρ (x T) X) (hy : Rv ρ (y T) Y) (h : add_s x y T σ = .ok v) : Bin P ρ .add X Y v := by
  unfold add_s at h
  obtain ⟨l, a, e1, h⟩ := onS_some h OA.ne
  obtain ⟨m, b, e2, h⟩ := onS_some h OA.ne
  obtain ⟨hb, h⟩ := ifO_ok h
  rw [e1] at hx; rw [e2] at hy
  obtain ⟨rfl, ha, _⟩ := hx
  obtain ⟨rfl, hb', _⟩ := hy
  cases h
  have hle : l + m ≤ 9223372036854775807 := Nat.le_of_ble_eq_true hb
  refine Bin.str (z := .string (strOf l a ++ strOf m b)) (fun w => ?_) ⟨by rw [strOf_app hb']; rfl, app_lt ha hb', hle⟩
  unfold Op.stringOp
  simp only
  rw [if_neg (by rw [strOf_size, strOf_size, show IntKind.i64.max = 9223372036854775807 from by decide]; omega)]
  rfl
theorem eql_s_ok (hx : Rv ρ (x T) X) (hy : Rv ρ (y T) Y) (h : eql_s x y T σ = .ok v) : Bin P ρ .eql X Y v := by
  unfold eql_s at h
  obtain ⟨l, a, e1, h⟩ := onS_some h OA.ne
  obtain ⟨m, b, e2, h⟩ := onS_some h OA.ne
  rw [e1] at hx; rw [e2] at hy
  obtain ⟨rfl, ha, _⟩ := hx
  obtain ⟨rfl, hb, _⟩ := hy
  cases h
  exact Bin.str (z := .bool (eqSB l a m b)) (fun w => by simp only [Op.stringOp, eq_toList ha hb, Sem.run_pure]) rfl
theorem neq_s_ok (hx : Rv ρ (x T) X) (hy : Rv ρ (y T) Y) (h : neq_s x y T σ = .ok v) : Bin P ρ .neq X Y v := by
  unfold neq_s at h
  obtain ⟨l, a, e1, h⟩ := onS_some h OA.ne
  obtain ⟨m, b, e2, h⟩ := onS_some h OA.ne
  rw [e1] at hx; rw [e2] at hy
  obtain ⟨rfl, ha, _⟩ := hx
  obtain ⟨rfl, hb, _⟩ := hy
  cases h
  exact Bin.str (z := .bool (!eqSB l a m b)) (fun w => by simp only [Op.stringOp, eq_toList ha hb, Sem.run_pure]) rfl
theorem lsS_or {l n m k : Nat} : (lsS l n m k || eqSB l n m k) = !lsS m k l n := by
  show (Bool.rec (motive := fun _ => Bool) (Bool.rec (motive := fun _ => Bool) false (Nat.ble (Nat.succ l) m) (Nat.beq (n <<< (8 * (max l m - l))) (k <<< (8 * (max l m - m))))) true (Nat.ble (Nat.succ (n <<< (8 * (max l m - l)))) (k <<< (8 * (max l m - m)))) || _) =
    !Bool.rec (motive := fun _ => Bool) (Bool.rec (motive := fun _ => Bool) false (Nat.ble (Nat.succ m) l) (Nat.beq (k <<< (8 * (max m l - m))) (n <<< (8 * (max m l - l))))) true (Nat.ble (Nat.succ (k <<< (8 * (max m l - m)))) (n <<< (8 * (max m l - l))))
  rw [Nat.max_comm m l, eqSB_eq]
  have hinj : l = m → (n <<< (8 * (max l m - l)) = k <<< (8 * (max l m - m)) ↔ n = k) := fun e => by
    subst e; simp
  generalize n <<< (8 * (max l m - l)) = A at *
  generalize k <<< (8 * (max l m - m)) = B at *
  simp only [ble_dec, beq_dec]
  by_cases h1 : Nat.succ A ≤ B
  · rw [decide_eq_true h1, decide_eq_false (show ¬ Nat.succ B ≤ A by omega), decide_eq_false (show ¬ B = A by omega)]; rfl
  · rw [decide_eq_false h1]
    by_cases h2 : A = B
    · subst h2
      rw [decide_eq_true rfl, decide_eq_false (show ¬ Nat.succ A ≤ A by omega)]
      rcases Nat.lt_trichotomy l m with h | h | h
      · rw [decide_eq_true (show Nat.succ l ≤ m from h), decide_eq_false (show ¬ Nat.succ m ≤ l by omega)]; rfl
      · have := (hinj h).1 rfl
        rw [decide_eq_false (show ¬ Nat.succ l ≤ m by omega), decide_eq_true (show l = m ∧ n = k from ⟨h, this⟩), decide_eq_false (show ¬ Nat.succ m ≤ l by omega)]; rfl
      · rw [decide_eq_false (show ¬ Nat.succ l ≤ m by omega), decide_eq_false (show ¬ (l = m ∧ n = k) by omega), decide_eq_true (show Nat.succ m ≤ l from h)]; rfl
    · rw [decide_eq_false h2, decide_eq_true (show Nat.succ B ≤ A by omega)]
      rw [decide_eq_false (show ¬ (l = m ∧ n = k) from fun ⟨e1, e2⟩ => h2 ((hinj e1).2 e2))]; rfl
theorem lss_s_ok (hx : Rv ρ (x T) X) (hy : Rv ρ (y T) Y) (h : lss_s x y T σ = .ok v) : Bin P ρ .lss X Y v := by
  unfold lss_s at h
  obtain ⟨l, a, e1, h⟩ := onS_some h OA.ne
  obtain ⟨m, b, e2, h⟩ := onS_some h OA.ne
  rw [e1] at hx; rw [e2] at hy
  obtain ⟨rfl, ha, _⟩ := hx
  obtain ⟨rfl, hb, _⟩ := hy
  cases h
  exact Bin.str (z := .bool (lsS l a m b)) (fun w => by simp only [Op.stringOp, lsS_eq ha hb, Sem.run_pure]) rfl
theorem geq_s_ok (hx : Rv ρ (x T) X) (hy : Rv ρ (y T) Y) (h : geq_s x y T σ = .ok v) : Bin P ρ .geq X Y v := by
  unfold geq_s at h
  obtain ⟨l, a, e1, h⟩ := onS_some h OA.ne
  obtain ⟨m, b, e2, h⟩ := onS_some h OA.ne
  rw [e1] at hx; rw [e2] at hy
  obtain ⟨rfl, ha, _⟩ := hx
  obtain ⟨rfl, hb, _⟩ := hy
  cases h
  exact Bin.str (z := .bool (!lsS l a m b)) (fun w => by simp only [Op.stringOp, lsS_eq ha hb, Sem.run_pure]) rfl
theorem leq_s_ok (hx : Rv ρ (x T) X) (hy : Rv ρ (y T) Y) (h : leq_s x y T σ = .ok v) : Bin P ρ .leq X Y v := by
  unfold leq_s at h
  obtain ⟨l, a, e1, h⟩ := onS_some h OA.ne
  obtain ⟨m, b, e2, h⟩ := onS_some h OA.ne
  rw [e1] at hx; rw [e2] at hy
  obtain ⟨rfl, ha, _⟩ := hx
  obtain ⟨rfl, hb, _⟩ := hy
  cases h
  exact Bin.str (z := .bool (!lsS m b l a)) (fun w => by simp only [Op.stringOp, lsS_eq ha hb, eq_toList ha hb, Sem.run_pure, lsS_or]) rfl
theorem gtr_s_ok (hx : Rv ρ (x T) X) (hy : Rv ρ (y T) Y) (h : gtr_s x y T σ = .ok v) : Bin P ρ .gtr X Y v := by
  unfold gtr_s at h
  obtain ⟨l, a, e1, h⟩ := onS_some h OA.ne
  obtain ⟨m, b, e2, h⟩ := onS_some h OA.ne
  rw [e1] at hx; rw [e2] at hy
  obtain ⟨rfl, ha, _⟩ := hx
  obtain ⟨rfl, hb, _⟩ := hy
  cases h
  exact Bin.str (z := .bool (lsS m b l a)) (fun w => by simp only [Op.stringOp, lsS_eq ha hb, eq_toList ha hb, Sem.run_pure, lsS_or, Bool.not_not]) rfl
end
end Go.Proofs.YtaogloegiffioaaGreatDoor
namespace Go.Proofs.YtaogloegiffioaaGreatDoor
def BinT (P : Program) (ρ : Pl) (op : BinOp) (t : TypeId) (X Y : Value) (v : AV) : Prop := ∀ (ox oy : Operand) (w : World), ∃ z, (do eqGuard op t ox oy X Y; binOp op t X Y : Sem Value).run P w = .ok z w ∧ Rv ρ v z
theorem Bin.t {P : Program} {ρ : Pl} {op : BinOp} {X Y : Value} {v : AV} (h : Bin P ρ op X Y v) (t : TypeId) : BinT P ρ op t X Y v := h t
def headV : Value → Bool
  | .bool _ => true
  | .pointer _ => true
  | .slice _ _ _ => true
  | .map _ => true
  | .agg _ => true
  | _ => false
theorem bin_eql {t : TypeId} {X Y : Value} (h : headV X = true) : binOp .eql t X Y = (do pure (.bool (← Op.equal t X Y))) := by cases X <;> first | rfl | cases h
theorem bin_neq {t : TypeId} {X Y : Value} (h : headV X = true) : binOp .neq t X Y = (do pure (.bool (!(← Op.equal t X Y)))) := by cases X <;> first | rfl | cases h
theorem BinT.eq {P : Program} {ρ : Pl} {t : TypeId} {X Y : Value} {b : Bool} (neg : Bool) (hX : headV X = true)
    (h : ∀ d w, (Op.equalIn (d + 1) t X Y).run P w = .ok b w) (g : ∀ op ox oy w, (eqGuard op t ox oy X Y).run P w = .ok () w) :
    BinT P ρ (if neg then .neq else .eql) t X Y (.b (Bool.rec b (not b) neg)) := by
  cases neg with
  | false =>
    refine fun ox oy w => ⟨.bool b, ?_, rfl⟩
    show (do eqGuard .eql t ox oy X Y; binOp .eql t X Y : Sem Value).run P w = _
    rw [bin_eql hX]; simp [g, Op.equal, Op.maxDepth, show (Op.equalIn 10000 t X Y).run P w = .ok b w from h 9999 w]
  | true =>
    refine fun ox oy w => ⟨.bool (!b), ?_, rfl⟩
    show (do eqGuard .neq t ox oy X Y; binOp .neq t X Y : Sem Value).run P w = _
    rw [bin_neq hX]; simp [g, Op.equal, Op.maxDepth, show (Op.equalIn 10000 t X Y).run P w = .ok b w from h 9999 w]
theorem eqBB_eq (a b : Bool) : eqBB a b = (a == b) := by cases a <;> cases b <;> rfl
section
variable {P : Program} {ρ : Pl} {x y : G} {T : Tm} {σ : St} {v : AV} {X Y : Value} {t : TypeId}
theorem eq_bool (ht : P.underlying t = some .bool) (a b : Bool) (neg : Bool) : BinT P ρ (if neg then .neq else .eql) t (.bool a) (.bool b) (.b (Bool.rec (eqBB a b) (not (eqBB a b)) neg)) :=
  BinT.eq neg rfl (fun d w => by simp [Op.equalIn, run_underlying ht, eqBB_eq]) (fun op ox oy w => by cases op <;> simp [eqGuard])
theorem eql_b_ok (ht : P.underlying t = some .bool) (hx : Rv ρ (x T) X) (hy : Rv ρ (y T) Y) (h : eql_b x y T σ = .ok v) : BinT P ρ .eql t X Y v := by
  unfold eql_b at h
  obtain ⟨a, e1, h⟩ := onB_some h OA.ne
  obtain ⟨b, e2, h⟩ := onB_some h OA.ne
  rw [e1] at hx; rw [e2] at hy
  cases h
  rw [show X = _ from hx, show Y = _ from hy]
  exact eq_bool ht a b false
theorem neq_b_ok (ht : P.underlying t = some .bool) (hx : Rv ρ (x T) X) (hy : Rv ρ (y T) Y) (h : neq_b x y T σ = .ok v) : BinT P ρ .neq t X Y v := by
  unfold neq_b at h
  obtain ⟨a, e1, h⟩ := onB_some h OA.ne
  obtain ⟨b, e2, h⟩ := onB_some h OA.ne
  rw [e1] at hx; rw [e2] at hy
  cases h
  rw [show X = _ from hx, show Y = _ from hy]
  exact eq_bool ht a b true
theorem eqNil_ok {neg : Bool} {p q : OB} (h : eqNil neg p q = .ok v) : ∃ a b, p = .ok a ∧ q = .ok b ∧ (a = true ∨ b = true) ∧ v = .b (Bool.rec (a && b) (not (a && b)) neg) := by
  cases p with
  | no => cases h
  | ok a =>
    cases q with
    | no => cases h
    | ok b =>
      cases a <;> cases b
      · cases h
      · cases h; exact ⟨_, _, rfl, rfl, .inr rfl, by cases neg <;> rfl⟩
      · cases h; exact ⟨_, _, rfl, rfl, .inl rfl, by cases neg <;> rfl⟩
      · cases h; exact ⟨_, _, rfl, rfl, .inl rfl, by cases neg <;> rfl⟩
theorem nilP_ok {a : AV} {b : Bool} (h : nilP a = .ok b) (hx : Rv ρ a X) : (b = true ∧ X = .pointer none) ∨ (b = false ∧ ∃ d, X = .pointer (some d)) := by
  cases a <;> first | (cases h; done) | skip
  · next u =>
    have h : Bool.rec (motive := fun _ => OB) .no (.ok true) (vP0 u) = .ok b := h
    cases hu : vP0 u with
    | false => rw [hu] at h; cases h
    | true =>
      rw [hu] at h; cases h
      unfold vP0 at hu
      split at hu
      · exact .inl ⟨rfl, hx⟩
      · cases hu
  · cases h; obtain ⟨L, _, e⟩ := hx; exact .inr ⟨rfl, _, e⟩
theorem nilS_ok {a : AV} {b : Bool} (h : nilS a = .ok b) (hx : Rv ρ a X) : (b = true ∧ ∃ n c, X = .slice none n c) ∨ (b = false ∧ ∃ d n c, X = .slice (some d) n c) := by
  cases a <;> first | (cases h; done) | skip
  · next u =>
    have h : Bool.rec (motive := fun _ => OB) .no (.ok true) (vSl u) = .ok b := h
    cases hu : vSl u with
    | false => rw [hu] at h; cases h
    | true =>
      rw [hu] at h; cases h
      unfold vSl at hu
      split at hu
      · exact .inl ⟨rfl, _, _, hx⟩
      · cases hu
  · cases h; obtain ⟨L, c', a, _, e, _⟩ := hx; exact .inr ⟨rfl, _, _, _, e⟩
theorem nilM_ok {a : AV} {b : Bool} (h : nilM a = .ok b) (hx : Rv ρ a X) : (b = true ∧ X = .map none) ∨ (b = false ∧ ∃ d, X = .map (some d)) := by
  cases a <;> first | (cases h; done) | skip
  · next u =>
    have h : Bool.rec (motive := fun _ => OB) .no (.ok true) (vMp0 u) = .ok b := h
    cases hu : vMp0 u with
    | false => rw [hu] at h; cases h
    | true =>
      rw [hu] at h; cases h
      unfold vMp0 at hu
      split at hu
      · exact .inl ⟨rfl, hx⟩
      · cases hu
  · cases h; obtain ⟨L, _, e⟩ := hx; exact .inr ⟨rfl, _, e⟩
theorem eq_p {e : TypeId} (ht : P.underlying t = some (.pointer e)) {a b : AV} (hx : Rv ρ a X) (hy : Rv ρ b Y) (neg : Bool) (h : eqNil neg (nilP a) (nilP b) = .ok v) : BinT P ρ (if neg then .neq else .eql) t X Y v := by
  obtain ⟨p, q, h1, h2, h3, rfl⟩ := eqNil_ok h
  rcases nilP_ok h1 hx with ⟨rfl, rfl⟩ | ⟨rfl, d, rfl⟩ <;> rcases nilP_ok h2 hy with ⟨rfl, rfl⟩ | ⟨rfl, d', rfl⟩
  · exact BinT.eq neg rfl (fun d w => by simp [Op.equalIn, run_underlying ht]) (fun op ox oy w => by cases op <;> simp [eqGuard])
  · exact BinT.eq neg rfl (fun d w => by simp [Op.equalIn, run_underlying ht]) (fun op ox oy w => by cases op <;> simp [eqGuard])
  · exact BinT.eq neg rfl (fun d w => by simp [Op.equalIn, run_underlying ht]) (fun op ox oy w => by cases op <;> simp [eqGuard])
  · rcases h3 with h | h <;> cases h
theorem eq_l {e : TypeId} (ht : P.underlying t = some (.slice e)) {a b : AV} (hx : Rv ρ a X) (hy : Rv ρ b Y) (neg : Bool) (h : eqNil neg (nilS a) (nilS b) = .ok v) : BinT P ρ (if neg then .neq else .eql) t X Y v := by
  obtain ⟨p, q, h1, h2, h3, rfl⟩ := eqNil_ok h
  rcases nilS_ok h1 hx with ⟨rfl, n, c, rfl⟩ | ⟨rfl, d, n, c, rfl⟩ <;> rcases nilS_ok h2 hy with ⟨rfl, n', c', rfl⟩ | ⟨rfl, d', n', c', rfl⟩
  · exact BinT.eq neg rfl (fun d w => by simp [Op.equalIn, run_underlying ht]) (fun op ox oy w => by cases op <;> simp [eqGuard])
  · exact BinT.eq neg rfl (fun d w => by simp [Op.equalIn, run_underlying ht]) (fun op ox oy w => by cases op <;> simp [eqGuard])
  · exact BinT.eq neg rfl (fun d w => by simp [Op.equalIn, run_underlying ht]) (fun op ox oy w => by cases op <;> simp [eqGuard])
  · rcases h3 with h | h <;> cases h
theorem eq_m {k e : TypeId} (ht : P.underlying t = some (.map k e)) {a b : AV} (hx : Rv ρ a X) (hy : Rv ρ b Y) (neg : Bool) (h : eqNil neg (nilM a) (nilM b) = .ok v) : BinT P ρ (if neg then .neq else .eql) t X Y v := by
  obtain ⟨p, q, h1, h2, h3, rfl⟩ := eqNil_ok h
  rcases nilM_ok h1 hx with ⟨rfl, rfl⟩ | ⟨rfl, d, rfl⟩ <;> rcases nilM_ok h2 hy with ⟨rfl, rfl⟩ | ⟨rfl, d', rfl⟩
  · exact BinT.eq neg rfl (fun d w => by simp [Op.equalIn, run_underlying ht]) (fun op ox oy w => by cases op <;> simp [eqGuard])
  · exact BinT.eq neg rfl (fun d w => by simp [Op.equalIn, run_underlying ht]) (fun op ox oy w => by cases op <;> simp [eqGuard])
  · exact BinT.eq neg rfl (fun d w => by simp [Op.equalIn, run_underlying ht]) (fun op ox oy w => by cases op <;> simp [eqGuard])
  · rcases h3 with h | h <;> cases h
theorem not_b_ok (hx : Rv ρ (x T) X) (h : not_b x T σ = .ok v) (w : World) : ∃ z, (Op.unary .not X).run P w = .ok z w ∧ Rv ρ v z := by
  unfold not_b at h
  obtain ⟨a, e1, h⟩ := onB_some h OA.ne
  rw [e1] at hx
  cases h
  rw [show X = _ from hx]
  exact ⟨.bool (!a), rfl, rfl⟩
theorem neg_i_ok (hx : Rv ρ (x T) X) (h : neg_i x T σ = .ok v) (w : World) : ∃ z, (Op.unary .neg X).run P w = .ok z w ∧ Rv ρ v z := by
  unfold neg_i at h
  obtain ⟨u, h1, h⟩ := bind_ok h
  cases h
  unfold binG at h1
  cases hv : (x T).val with
  | none => rw [hv] at h1; cases h1
  | some V =>
    rw [hv] at h1
    have := val_ok hx hv
    subst this
    change binV .sub (some (.int .i64 (.ofNat 0))) (some X) = _ at h1
    unfold binV at h1
    split at h1
    · next k a k' b e3 e4 =>
      injection e3 with e3; injection e4 with e4; injection e3 with e5 e6; subst e5 e6 e4
      split at h1
      · next z h3 h4 =>
        cases h1
        have := kEqB_ok h3
        subst this
        injection h4 with h4
        subst h4
        exact ⟨_, rfl, normV_ok _⟩
      · cases h1
    · cases h1
theorem neg_u32_ok (hx : Rv ρ (x T) X) (h : neg_u32 x T σ = .ok v) (w : World) : ∃ z, (Op.unary .neg X).run P w = .ok z w ∧ Rv ρ v z := by
  unfold neg_u32 at h
  obtain ⟨a, e1, h⟩ := onU32_some h OA.ne
  rw [e1] at hx
  obtain ⟨rfl, ha⟩ := hx
  refine ⟨.int .u32 (IntKind.wrap .u32 (0 - (.ofNat a))), rfl, ?_⟩
  have := wu32_ok (ρ := ρ) h
  have e : IntKind.wrap .u32 (0 - (.ofNat a)) = IntKind.wrap .u32 (.ofNat (Nat.sub 4294967296 a)) := by
    have p32 : (2 ^ 32 : Int) = 4294967296 := by decide
    show (0 - (a : Int)) % (2 ^ 32 : Int) = ((4294967296 - a : Nat) : Int) % (2 ^ 32 : Int)
    rw [p32]; omega
  rw [e]; exact this
theorem neg_u64_ok (hx : Rv ρ (x T) X) (h : neg_u64 x T σ = .ok v) (w : World) : ∃ z, (Op.unary .neg X).run P w = .ok z w ∧ Rv ρ v z := by
  unfold neg_u64 at h
  obtain ⟨a, e1, h⟩ := onU64_some h OA.ne
  rw [e1] at hx
  obtain ⟨rfl, ha⟩ := hx
  refine ⟨.int .u64 (IntKind.wrap .u64 (0 - (.ofNat a))), rfl, ?_⟩
  have := wu64_ok (ρ := ρ) h
  have e : IntKind.wrap .u64 (0 - (.ofNat a)) = IntKind.wrap .u64 (.ofNat (Nat.sub 18446744073709551616 a)) := by
    have p64 : (2 ^ 64 : Int) = 18446744073709551616 := by decide
    show (0 - (a : Int)) % (2 ^ 64 : Int) = ((18446744073709551616 - a : Nat) : Int) % (2 ^ 64 : Int)
    rw [p64]; omega
  rw [e]; exact this
theorem xor_mask (n a : Nat) (h : a < 2 ^ n) : Nat.xor (2 ^ n - 1) a = 2 ^ n - 1 - a := by
  refine Nat.eq_of_testBit_eq fun i => ?_
  show ((2 ^ n - 1) ^^^ a).testBit i = _
  rw [Nat.testBit_xor, Nat.testBit_two_pow_sub_one, show 2 ^ n - 1 - a = 2 ^ n - (a + 1) by omega, Nat.testBit_two_pow_sub_succ h]
  by_cases hi : i < n
  · simp [hi]
  · have : a.testBit i = false := Nat.testBit_lt_two_pow (Nat.lt_of_lt_of_le h (Nat.pow_le_pow_right (by omega) (by omega)))
    simp [hi, this]
theorem com_u32_ok (hx : Rv ρ (x T) X) (h : com_u32 x T σ = .ok v) (w : World) : ∃ z, (Op.unary .xor X).run P w = .ok z w ∧ Rv ρ v z := by
  unfold com_u32 at h
  obtain ⟨a, e1, h⟩ := onU32_some h OA.ne
  rw [e1] at hx
  obtain ⟨rfl, ha⟩ := hx
  cases h
  have g := intA_ok (P := P) (k := .u32) (op := .xor) (a := .ofNat 4294967295) (b := .ofNat a) (v := .int .u32 (wrapF .u32 (.ofNat (Nat.xor (modK .u32 4294967295) (modK .u32 a))))) rfl w
  refine ⟨_, g, ?_⟩
  rw [modK_in (show 4294967295 < lim .u32 by decide), modK_in (in_u32 ha), show Nat.xor 4294967295 a = 4294967295 - a from xor_mask 32 a ha]
  have hb : 4294967295 - a < 4294967296 := by omega
  rw [wrapF_eq, wrap_in (in_u32 hb)]
  exact ⟨rfl, hb⟩
theorem com_u64_ok (hx : Rv ρ (x T) X) (h : com_u64 x T σ = .ok v) (w : World) : ∃ z, (Op.unary .xor X).run P w = .ok z w ∧ Rv ρ v z := by
  unfold com_u64 at h
  obtain ⟨a, e1, h⟩ := onU64_some h OA.ne
  rw [e1] at hx
  obtain ⟨rfl, ha⟩ := hx
  cases h
  have g := intA_ok (P := P) (k := .u64) (op := .xor) (a := .ofNat 18446744073709551615) (b := .ofNat a) (v := .int .u64 (wrapF .u64 (.ofNat (Nat.xor (modK .u64 18446744073709551615) (modK .u64 a))))) rfl w
  refine ⟨_, g, ?_⟩
  rw [modK_in (show 18446744073709551615 < lim .u64 by decide), modK_in (in_u64 ha), show Nat.xor 18446744073709551615 a = 18446744073709551615 - a from xor_mask 64 a ha]
  have hb : 18446744073709551615 - a < 18446744073709551616 := by omega
  rw [wrapF_eq, wrap_in (in_u64 hb)]
  exact ⟨rfl, hb⟩
theorem convert_int {src dst : TypeId} {d : TypeDesc} {k : IntKind} (hs : P.underlying src = some d) (hd : P.underlying dst = some (.int k)) (j : IntKind) (n : Int) (w : World) :
    (convert src dst (.int j n)).run P w = .ok (.int k (k.wrap n)) w := by
  simp [convert, run_underlying hs, run_underlying hd, Conv.intToInt]
theorem cvG_ok {k : IntKind} {a : AV} (hx : Rv ρ a X) (h : cvG k a.val = .ok v) : ∃ j n, X = .int j n ∧ Rv ρ v (.int k (k.wrap n)) := by
  unfold cvG at h
  split at h
  · next j n e =>
    have := val_ok hx e
    cases h
    exact ⟨j, n, this, normV_ok _⟩
  · cases h
theorem cv_ok {src dst : TypeId} {d : TypeDesc} {k : IntKind} (hs : P.underlying src = some d) (hd : P.underlying dst = some (.int k)) {f : Nat → OA} (hf : ∀ n u, f n = .ok u → Rv ρ u (.int k (k.wrap (.ofNat n)))) {a : AV} (hx : Rv ρ a X) (h : onNum a f (cvG k a.val) = .ok v) (w : World) :
    ∃ z, (convert src dst X).run P w = .ok z w ∧ Rv ρ v z := by
  rcases onNum_or h with ⟨n, e, h⟩ | h
  · obtain ⟨j, rfl⟩ := Rv_num hx e
    exact ⟨_, convert_int hs hd j _ w, hf n v h⟩
  · obtain ⟨j, n, rfl, hv⟩ := cvG_ok hx h
    exact ⟨_, convert_int hs hd j _ w, hv⟩
end
end Go.Proofs.YtaogloegiffioaaGreatDoor
namespace Go.Proofs.YtaogloegiffioaaGreatDoor
def bytesT (P : Program) (t : TypeId) : Option Nat := match P.info? t with
  | some i => some i.bytes
  | none => none
def sizeA (P : Program) (t : TypeId) : Option Nat := match P.info? t with
  | some i => some i.size
  | none => none
def isAggA (P : Program) (t : TypeId) : Option Bool := match P.underlying t with
  | some (.struct _) => some true
  | some (.array _ _) => some true
  | some _ => some false
  | none => none
theorem add_ad (b off i : Nat) : (Addr.add ⟨b, off, none⟩ i) = ⟨b, off + i, none⟩ := by
  unfold Addr.add
  split
  · next h0 => subst h0; rfl
  · rfl
theorem isAgg_run {P : Program} {t : TypeId} {b : Bool} (h : isAggA P t = some b) (w : World) : (isAgg t).run P w = .ok b w := by
  unfold isAggA at h
  cases hu : P.underlying t with
  | none => rw [hu] at h; cases h
  | some d =>
    rw [hu] at h
    unfold isAgg
    rw [Sem.run_bind, run_underlying hu w]
    cases d <;> (injection h with h; subst h; rfl)
theorem sizeOf_run {P : Program} {t : TypeId} {n : Nat} (h : sizeA P t = some n) (w : World) : (sizeOf t).run P w = .ok n w := by
  unfold sizeA at h
  cases hu : P.info? t with
  | none => rw [hu] at h; cases h
  | some i =>
    rw [hu] at h
    injection h with h
    simp [sizeOf, typeInfo, hu, h]
theorem cell_of {w : World} {r : Nat} {arr : Array Value} {t : TypeId} {fr : Nat × Nat} (h : w.heap[r]? = some (.cells arr t fr)) (i : Nat) : w.cell? ⟨r, i, none⟩ = arr[i]? := by
  simp [World.cell?, h]
section
variable {P : Program} {ρ : Pl} {x y : G} {T : Tm} {σ : St} {v : AV} {X Y : Value} {t : TypeId} {w : World}
theorem pkm_ok {κ : PK} {d : Nat} (h : d < 2 ^ pkw κ) : Rv ρ (pkm κ d) (pkV κ d) := by
  cases κ
  · exact rfl
  · exact ⟨rfl, h⟩
  · show Rv ρ (Bool.rec (normV (.int .i64 (IntKind.wrap .i64 (.ofNat d)))) (.i64 d) (Nat.ble d 9223372036854775807)) (.int .i64 (IntKind.wrap .i64 (.ofNat d)))
    cases hb : Nat.ble d 9223372036854775807 with
    | false => exact normV_ok _
    | true =>
      have := Nat.le_of_ble_eq_true hb
      exact ⟨by rw [wrap_in (in_i64 this)], this⟩
  · exact ⟨rfl, h⟩
  · show Rv ρ (Bool.rec (normV (.int .i32 (IntKind.wrap .i32 (.ofNat d)))) (.i32 d) (Nat.ble d 2147483647)) (.int .i32 (IntKind.wrap .i32 (.ofNat d)))
    cases hb : Nat.ble d 2147483647 with
    | false => exact normV_ok _
    | true =>
      have := Nat.le_of_ble_eq_true hb
      exact ⟨by rw [wrap_in (in_i32 this)], this⟩
  · exact ⟨rfl, h⟩
theorem Rw_congr {r q : Row} {i j : Nat} (h : r.get i = q.get j) {x : Value} (hx : Rw ρ r i x) : Rw ρ q j x := by
  rw [Rw_get] at hx ⊢
  rw [← h]; exact hx
theorem Rw_ok {r : Row} {i : Nat} {x : Value} {v : AV} (hx : Rw ρ r i x) (h : r.get i = .ok v) : Rv ρ v x := by
  obtain ⟨u, h1, h2, _⟩ := (Rw_get r i x).1 hx
  rw [h] at h1; cases h1; exact h2
theorem get_ok {k : Blk} {L : Loc} (hb : RB ρ w L k) {o : Nat} (h : k.get o = .ok v) : ∃ y, w.cell? ⟨L.r, L.s + o, none⟩ = some y ∧ Rv ρ v y := by
  unfold Blk.get at h
  rcases onCP_some h OA.ne with ⟨t, n, r, rfl, h⟩ | ⟨κ, t, n, m, rfl, h⟩
  · obtain ⟨hle, h⟩ := ifO_ok h
    have hlt : o < n := Nat.le_of_ble_eq_true hle
    obtain ⟨_, arr, fr, e, h1, h2, h3, h4, h5, h6⟩ := hb
    obtain ⟨y, ey, hy⟩ := h6 o hlt
    exact ⟨y, by rw [cell_of e]; exact ey, Rw_ok hy h⟩
  · obtain ⟨hle, h⟩ := ifO_ok h
    have hlt : o < n := Nat.le_of_ble_eq_true hle
    obtain ⟨_, arr, fr, e, h1, h2, h3, h4, h5⟩ := hb
    cases h
    exact ⟨_, by rw [cell_of e]; exact h5 o hlt, pkm_ok (by have := bitsAt_lt (pkw κ) n m o 1; rwa [Nat.mul_one] at this)⟩
theorem row_ok {t : TypeId} {N : Nat} {r : Row} {L : Loc} (hb : RB ρ w L (.cells t N r)) {o n : Nat} (hle : o + n ≤ N) :
    r.good ∧ o + n ≤ r.cap ∧ (∀ j, j < n → ∃ u, r.get (o + j) = .ok u) ∧ ∃ cs : List Value, cs.length = n ∧ (∀ j y, cs[j]? = some y → Rw ρ r (o + j) y) ∧ ∀ j y, cs[j]? = some y → w.cell? ⟨L.r, L.s + o + j, none⟩ = some y := by
  obtain ⟨_, arr, fr, e, h1, h2, h3, h4, h5, h6⟩ := hb
  have hlen : ((arr.toList.drop (L.s + o)).take n).length = n := by simp; omega
  have hget : ∀ j, j < n → ((arr.toList.drop (L.s + o)).take n)[j]? = arr[L.s + (o + j)]? := fun j hj => by
    rw [List.getElem?_take, if_pos hj, List.getElem?_drop, Array.getElem?_toList]; congr 1; omega
  refine ⟨h4, by omega, fun j hj => ?_, (arr.toList.drop (L.s + o)).take n, hlen, fun j y hy => ?_, fun j y hy => ?_⟩
  · obtain ⟨y, _, hy⟩ := h6 (o + j) (by omega)
    obtain ⟨u, hu, _⟩ := (Rw_get r _ y).1 hy
    exact ⟨u, hu⟩
  · have hj : j < n := by
      rcases Nat.lt_or_ge j n with g | g
      · exact g
      · rw [List.getElem?_eq_none (by omega)] at hy; cases hy
    rw [hget j hj] at hy
    obtain ⟨z, ez, hz⟩ := h6 (o + j) (by omega)
    rw [hy] at ez; cases ez; exact hz
  · have hj : j < n := by
      rcases Nat.lt_or_ge j n with g | g
      · exact g
      · rw [List.getElem?_eq_none (by omega)] at hy; cases hy
    rw [hget j hj] at hy
    rw [cell_of e, Nat.add_assoc]; exact hy
theorem ld1_ok (hs : RS ρ σ w) (ha : isAggA P t = some false) (hx : Rv ρ (x T) X) (h : ld1 x T σ = .ok v) : ∃ y, (Instr.loadAt t X).run P w = .ok y w ∧ Rv ρ v y := by
  unfold ld1 at h
  obtain ⟨b, o, e1, h⟩ := onP_some h OA.ne
  rw [e1] at hx
  obtain ⟨L, eL, rfl⟩ := hx
  obtain ⟨y, hc, hy⟩ := get_ok (hs.blk b L eL) h
  exact ⟨y, by simp [Instr.loadAt, Instr.sureAddr, loadVar, isAgg_run ha, hc], hy⟩
theorem ldN_ok {n : Nat} (hs : RS ρ σ w) (ha : isAggA P t = some true) (hn : sizeA P t = some n) (hx : Rv ρ (x T) X) (h : ldN n x T σ = .ok v) : ∃ y, (Instr.loadAt t X).run P w = .ok y w ∧ Rv ρ v y := by
  unfold ldN at h
  obtain ⟨b, o, e1, h⟩ := onP_some h OA.ne
  rw [e1] at hx
  obtain ⟨L, eL, rfl⟩ := hx
  have hb := hs.blk b L eL
  unfold Blk.getN at h
  obtain ⟨tt, N, r, ek, h⟩ := onCells_some h OA.ne
  rw [ek] at hb
  obtain ⟨hle, h⟩ := ifO_ok h
  obtain ⟨q, hq, rfl⟩ := aggO_ok h
  obtain ⟨g1, g2, g3, cs, c1, c2, c3⟩ := row_ok hb (Nat.le_of_ble_eq_true hle)
  obtain ⟨q1, q2, q3⟩ := Row.cut_spec hq g1 g2 g3
  refine ⟨.agg cs.toArray, ?_, cs, rfl, c1, q1, q2, fun i y hy => ?_⟩
  · have hld := run_loadCells_list (P := P) w ⟨L.r, L.s + o, none⟩ cs (fun j v hv => by rw [add_ad]; exact c3 j v hv)
    rw [c1] at hld
    simp [Instr.loadAt, Instr.sureAddr, loadVar, isAgg_run ha, sizeOf_run hn, hld]
  · have hi : i < n := by
      rcases Nat.lt_or_ge i n with g | g
      · exact g
      · rw [List.getElem?_eq_none (by omega)] at hy; cases hy
    exact Rw_congr (q3 i hi).symm (c2 i y hy)
theorem agg_get {n : Nat} {r : Row} {cs : List Value} (h2 : cs.length = n) (h5 : ∀ i y, cs[i]? = some y → Rw ρ r i y) {i : Nat} (hi : i < n) : ∃ y, cs[i]? = some y ∧ Rw ρ r i y := by
  have := List.getElem?_eq_getElem (l := cs) (i := i) (by omega)
  exact ⟨_, this, h5 i _ this⟩
theorem part1_ok {n : Nat} {r : Row} {cs : List Value} {o : Nat} (ha : isAggA P t = some false) (h2 : cs.length = n) (h5 : ∀ i y, cs[i]? = some y → Rw ρ r i y) (ho : o < n) (h : r.get o = .ok v) :
    ∃ y, (part t cs.toArray o).run P w = .ok y w ∧ Rv ρ v y := by
  obtain ⟨y, e, hy⟩ := agg_get h2 h5 ho
  exact ⟨y, by simp [part, isAgg_run ha, e], Rw_ok hy h⟩
theorem partN_ok {n m : Nat} {r q : Row} {cs : List Value} {o : Nat} (ha : isAggA P t = some true) (hm : sizeA P t = some m) (h2 : cs.length = n) (h3 : r.good) (h4 : n ≤ r.cap) (h5 : ∀ i y, cs[i]? = some y → Rw ρ r i y) (ho : o + m ≤ n) (h : r.cut o m = .ok q) :
    ∃ y, (part t cs.toArray o).run P w = .ok y w ∧ Rv ρ (.agg m q) y := by
  have hd : ∀ j, j < m → ∃ u, r.get (o + j) = .ok u := fun j hj => by
    obtain ⟨y, _, hy⟩ := agg_get h2 h5 (show o + j < n by omega)
    obtain ⟨u, hu, _⟩ := (Rw_get r _ y).1 hy
    exact ⟨u, hu⟩
  obtain ⟨q1, q2, q3⟩ := Row.cut_spec h h3 (by omega) hd
  refine ⟨.agg (cs.toArray.extract o (o + m)), by simp [part, isAgg_run ha, sizeOf_run hm], (cs.drop o).take m, ?_, by simp; omega, q1, q2, fun i y hy => ?_⟩
  · congr 1
    apply Array.ext'
    rw [List.extract_toArray]
    simp [List.extract_eq_take_drop]
  · have hi : i < m := by
      rcases Nat.lt_or_ge i m with g | g
      · exact g
      · rw [List.getElem?_eq_none (by simp; omega)] at hy; cases hy
    rw [List.getElem?_take, if_pos hi, List.getElem?_drop] at hy
    exact Rw_congr (q3 i hi).symm (h5 _ _ hy)
theorem fld1_ok {fs : Array Field} {i : Nat} {f : Field} (hu : P.underlying t = some (.struct fs)) (hf : fs[i]? = some f) (ha : isAggA P f.type = some false) (hx : Rv ρ (x T) X) (h : fld1 f.offset x T σ = .ok v) :
    ∃ y, (Instr.field t X i).run P w = .ok y w ∧ Rv ρ v y := by
  unfold fld1 at h
  obtain ⟨m, r, e1, h⟩ := onAgg_some h OA.ne
  rw [e1] at hx
  obtain ⟨cs, rfl, h2, h3, h4, h5⟩ := hx
  obtain ⟨hle, h⟩ := ifO_ok h
  obtain ⟨y, g1, g2⟩ := part1_ok (P := P) (w := w) ha h2 h5 (Nat.le_of_ble_eq_true hle) h
  exact ⟨y, by simp [Instr.field, run_underlying hu, hf, asAgg, g1], g2⟩
theorem fldN_ok {fs : Array Field} {i n : Nat} {f : Field} (hu : P.underlying t = some (.struct fs)) (hf : fs[i]? = some f) (ha : isAggA P f.type = some true) (hn : sizeA P f.type = some n) (hx : Rv ρ (x T) X) (h : fldN f.offset n x T σ = .ok v) :
    ∃ y, (Instr.field t X i).run P w = .ok y w ∧ Rv ρ v y := by
  unfold fldN at h
  obtain ⟨m, r, e1, h⟩ := onAgg_some h OA.ne
  rw [e1] at hx
  obtain ⟨cs, rfl, h2, h3, h4, h5⟩ := hx
  obtain ⟨hle, h⟩ := ifO_ok h
  obtain ⟨q, hq, rfl⟩ := aggO_ok h
  obtain ⟨y, g1, g2⟩ := partN_ok (P := P) (w := w) ha hn h2 h3 h4 h5 (Nat.le_of_ble_eq_true hle) hq
  exact ⟨y, by simp [Instr.field, run_underlying hu, hf, asAgg, g1], g2⟩
theorem fad_ok {fs : Array Field} {i n : Nat} {f : Field} (hu : P.underlying t = some (.struct fs)) (hf : fs[i]? = some f) (hn : sizeA P f.type = some n) (h0 : n ≠ 0) (hx : Rv ρ (x T) X) (h : fad f.offset x T σ = .ok v) :
    ∃ y, (Instr.fieldAt t X i).run P w = .ok y w ∧ Rv ρ v y := by
  unfold fad at h
  obtain ⟨b, o, e1, h⟩ := onP_some h OA.ne
  rw [e1] at hx
  obtain ⟨L, eL, rfl⟩ := hx
  cases h
  exact ⟨.pointer (some ⟨L.r, L.s + o + f.offset, none⟩), by simp [Instr.fieldAt, run_underlying hu, hf, Instr.sureAddr, fieldPlace, sizeOf_run hn, h0, add_ad], L, eL, by rw [Nat.add_assoc]; rfl⟩
theorem nilc_ok (hx : Rv ρ (x T) X) (h : nilc x T σ = .ok v) {o : Oper} {a : Act} {p : Operand} (ho : o.op = .nilCheck p) (hp : a.eval p = X) : (execOp a.eval o).run P w = .ok (.value X) w ∧ Rv ρ v X := by
  unfold nilc at h
  rcases onP_or h with ⟨b, q, e1, h⟩ | h
  · cases h
    have hx' := hx
    rw [e1] at hx'
    obtain ⟨L, eL, rfl⟩ := hx'
    exact ⟨by simp [execOp, ho, hp], hx⟩
  · obtain ⟨f, c, e1, h⟩ := onFn_some h OA.ne
    cases h
    have hx' := hx
    rw [e1] at hx'
    obtain ⟨cs, _, rfl⟩ := hx'
    exact ⟨by simp [execOp, ho, hp], hx⟩
theorem asInt_num {a : AV} {n : Nat} (hy : Rv ρ a Y) (e : a = .i64 n ∨ a = .u64 n ∨ a = .u8 n ∨ a = .u32 n ∨ a = .i32 n) : ∃ k, (asIntOf Y).run P w = .ok (k, (n : Int)) w := by
  obtain ⟨k, rfl⟩ := Rv_num hy e
  exact ⟨k, rfl⟩
theorem iad_s_ok {e n : Nat} (hu : P.underlying t = some (.slice e)) (hn : sizeA P e = some n) (hx : Rv ρ (x T) X) (hy : Rv ρ (y T) Y) (h : iad_s n x y T σ = .ok v) :
    ∃ z, (Instr.indexAt t X Y).run P w = .ok z w ∧ Rv ρ v z := by
  unfold iad_s at h
  obtain ⟨b, o, l, c, w', kn, e1, h⟩ := onSl_some h OA.ne
  obtain ⟨i, e2, h⟩ := (onNum_or h).resolve_right OA.ne
  rw [e1] at hx
  obtain ⟨L, c', a, eL, rfl, ha, h1, h2, h3, h4, h5⟩ := hx
  obtain ⟨k, hk⟩ := asInt_num (P := P) (w := w) hy e2
  obtain ⟨hle, h⟩ := ifO_ok h
  have hlt : i < l := Nat.le_of_ble_eq_true hle
  cases h
  have ha : a = L.s + o := ha.resolve_right (by omega)
  subst ha
  exact ⟨.pointer (some ⟨L.r, L.s + o + i * n, none⟩), by simp [Instr.indexAt, hk, run_underlying hu, sizeOf_run hn, hlt, add_ad], L, eL, by rw [Nat.add_assoc]; rfl⟩
theorem iad_a_ok {e n N : Nat} (hu : P.underlying t = some (.array N e)) (hn : sizeA P e = some n) (hx : Rv ρ (x T) X) (hy : Rv ρ (y T) Y) (h : iad_a N n x y T σ = .ok v) :
    ∃ z, (Instr.indexAt t X Y).run P w = .ok z w ∧ Rv ρ v z := by
  unfold iad_a at h
  obtain ⟨b, o, e1, h⟩ := onP_some h OA.ne
  obtain ⟨i, e2, h⟩ := (onNum_or h).resolve_right OA.ne
  rw [e1] at hx
  obtain ⟨L, eL, rfl⟩ := hx
  obtain ⟨k, hk⟩ := asInt_num (P := P) (w := w) hy e2
  obtain ⟨hle, h⟩ := ifO_ok h
  have hlt : i < N := Nat.le_of_ble_eq_true hle
  cases h
  exact ⟨.pointer (some ⟨L.r, L.s + o + i * n, none⟩), by simp [Instr.indexAt, hk, run_underlying hu, sizeOf_run hn, hlt, add_ad, Instr.sureAddr], L, eL, by rw [Nat.add_assoc]; rfl⟩
theorem ix_s_ok (hu : P.underlying t = some .string) (hx : Rv ρ (x T) X) (hy : Rv ρ (y T) Y) (h : ix_s x y T σ = .ok v) :
    ∃ z, (Instr.index t X Y).run P w = .ok z w ∧ Rv ρ v z := by
  unfold ix_s at h
  obtain ⟨l, a, e1, h⟩ := onS_some h OA.ne
  obtain ⟨i, e2, h⟩ := (onNum_or h).resolve_right OA.ne
  rw [e1] at hx
  obtain ⟨rfl, ha, _⟩ := hx
  obtain ⟨k, hk⟩ := asInt_num (P := P) (w := w) hy e2
  obtain ⟨hle, h⟩ := ifO_ok h
  have hlt : i < l := Nat.le_of_ble_eq_true hle
  cases h
  have hb : bitsAt 8 l a i 1 < 256 := by have := bitsAt_lt 8 l a i 1; simpa using this
  refine ⟨.int .u8 (.ofNat (bitsAt 8 l a i 1)), ?_, rfl, hb⟩
  have e : (UInt8.ofNat (bitsAt 8 l a i 1)).toNat = bitsAt 8 l a i 1 := by rw [UInt8.toNat_ofNat']; exact Nat.mod_eq_of_lt hb
  simp [Instr.index, hk, run_underlying hu, strOf_get hlt, e]
theorem ix_a1_ok {e N : Nat} (hu : P.underlying t = some (.array N e)) (hn : sizeA P e = some 1) (ha : isAggA P e = some false) (hx : Rv ρ (x T) X) (hy : Rv ρ (y T) Y) (h : ix_a1 N x y T σ = .ok v) :
    ∃ z, (Instr.index t X Y).run P w = .ok z w ∧ Rv ρ v z := by
  unfold ix_a1 at h
  obtain ⟨m, r, e1, h⟩ := onAgg_some h OA.ne
  obtain ⟨i, e2, h⟩ := (onNum_or h).resolve_right OA.ne
  rw [e1] at hx
  obtain ⟨cs, rfl, h2, h3, h4, h5⟩ := hx
  obtain ⟨k, hk⟩ := asInt_num (P := P) (w := w) hy e2
  obtain ⟨hm, h⟩ := ifO_ok h
  obtain ⟨hle, h⟩ := ifO_ok h
  have hlt : i < N := Nat.le_of_ble_eq_true hle
  have hm : m = N := Nat.eq_of_beq_eq_true hm
  obtain ⟨z, g1, g2⟩ := part1_ok (P := P) (w := w) ha h2 h5 (show i < m by omega) h
  exact ⟨z, by simp [Instr.index, hk, run_underlying hu, hlt, sizeOf_run hn, g1], g2⟩
theorem ix_aN_ok {e n N : Nat} (hu : P.underlying t = some (.array N e)) (hn : sizeA P e = some n) (ha : isAggA P e = some true) (hx : Rv ρ (x T) X) (hy : Rv ρ (y T) Y) (h : ix_aN N n x y T σ = .ok v) :
    ∃ z, (Instr.index t X Y).run P w = .ok z w ∧ Rv ρ v z := by
  unfold ix_aN at h
  obtain ⟨m, r, e1, h⟩ := onAgg_some h OA.ne
  obtain ⟨i, e2, h⟩ := (onNum_or h).resolve_right OA.ne
  rw [e1] at hx
  obtain ⟨cs, rfl, h2, h3, h4, h5⟩ := hx
  obtain ⟨k, hk⟩ := asInt_num (P := P) (w := w) hy e2
  obtain ⟨hm, h⟩ := ifO_ok h
  obtain ⟨hle, h⟩ := ifO_ok h
  have hlt : i < N := Nat.le_of_ble_eq_true hle
  have hm : m = N * n := Nat.eq_of_beq_eq_true hm
  obtain ⟨q, hq, rfl⟩ := aggO_ok h
  have hb : i * n + n ≤ m := by
    have : (i + 1) * n ≤ N * n := Nat.mul_le_mul_right _ hlt
    rw [Nat.add_mul] at this; omega
  obtain ⟨z, g1, g2⟩ := partN_ok (P := P) (w := w) ha hn h2 h3 h4 h5 hb hq
  exact ⟨z, by simp [Instr.index, hk, run_underlying hu, hlt, sizeOf_run hn, g1], g2⟩
theorem vSl0_ok {u : Value} (h : vSl0 u = true) : ∃ c, u = .slice none 0 c := by
  unfold vSl0 at h; split at h
  · exact ⟨_, rfl⟩
  · cases h
theorem vSl00_ok {u : Value} (h : vSl00 u = true) : u = .slice none 0 0 := by
  unfold vSl00 at h; split at h
  · rfl
  · cases h
theorem vMp0_ok {u : Value} (h : vMp0 u = true) : u = .map none := by
  unfold vMp0 at h; split at h
  · rfl
  · cases h
theorem vNI_ok {u : Value} (h : vNI u = true) : u = .nilIface := by
  unfold vNI at h; split at h
  · rfl
  · cases h
theorem maxLen_eq : maxLen = 9223372036854775807 := by decide
theorem len_s_ok {ts : Array TypeId} {d : TypeId} (ht : ts[0]? = some t) (hu : P.underlying t = some .string) (hx : Rv ρ (x T) X) (h : len_s x T σ = .ok v) : ∃ z, (Builtin.len_ ts d #[X]).run P w = .ok z w ∧ Rv ρ v z := by
  unfold len_s at h
  obtain ⟨l, a, e1, h⟩ := onS_some h OA.ne
  rw [e1] at hx
  obtain ⟨rfl, _, hl⟩ := hx
  cases h
  exact ⟨.int .i64 l, by simp [Builtin.len_, ht, run_underlying hu, strOf_size, goInt], rfl, hl⟩
theorem len_l_ok {ts : Array TypeId} {d e : TypeId} (ht : ts[0]? = some t) (hu : P.underlying t = some (.slice e)) (hx : Rv ρ (x T) X) (h : len_l x T σ = .ok v) : ∃ z, (Builtin.len_ ts d #[X]).run P w = .ok z w ∧ Rv ρ v z := by
  unfold len_l at h
  rcases onSl_or h with ⟨b, o, l, c, w', kn, e1, h⟩ | h
  · rw [e1] at hx
    obtain ⟨L, c', a, eL, rfl, ha, h1, h2, h3, h4, h5⟩ := hx
    cases h
    exact ⟨.int .i64 l, by simp [Builtin.len_, ht, run_underlying hu, goInt], rfl, by rw [maxLen_eq] at h4; omega⟩
  · obtain ⟨u, e1, h⟩ := onLit_some h OA.ne
    obtain ⟨hv, h⟩ := ifO_ok h
    obtain ⟨c, rfl⟩ := vSl0_ok hv
    cases h
    rw [e1] at hx
    rw [show X = _ from hx]
    exact ⟨.int .i64 0, by simp [Builtin.len_, ht, run_underlying hu, goInt], rfl, by omega⟩
theorem Res.len : ∀ {l : Ents} {es : List MapEntry}, Res ρ l es → es.length = l.len
  | .nil, _, h => by rw [show _ = [] from h]; rfl
  | .cons _ _ _ _, _, ⟨_, _, e, _, _, _, h⟩ => by rw [e, List.length_cons, Res.len h]; rfl
theorem getMap_run {r : Nat} {arr : Array MapEntry} {c : Nat} (h : w.heap[r]? = some (.map arr c)) : (getObj r).run P w = .ok (.map arr c) w := by
  simp [getObj, Sem.run, h]
theorem len_m_ok {ts : Array TypeId} {d k e : TypeId} (hs : RS ρ σ w) (ht : ts[0]? = some t) (hu : P.underlying t = some (.map k e)) (hx : Rv ρ (x T) X) (h : len_m x T σ = .ok v) : ∃ z, (Builtin.len_ ts d #[X]).run P w = .ok z w ∧ Rv ρ v z := by
  unfold len_m at h
  rcases onMp_or h with ⟨b, e1, h⟩ | h
  · rw [e1] at hx
    obtain ⟨L, eL, rfl⟩ := hx
    obtain ⟨es, c, ek, h⟩ := onMap_some h OA.ne
    have hb := hs.blk b L eL
    rw [ek] at hb
    obtain ⟨_, arr, e2, h2⟩ := hb
    obtain ⟨hle, h⟩ := ifO_ok h
    cases h
    have := h2.len
    refine ⟨.int .i64 es.len, by simp [Builtin.len_, ht, run_underlying hu, goInt, getMap_run e2, ← this], rfl, Nat.le_of_ble_eq_true hle⟩
  · obtain ⟨u, e1, h⟩ := onLit_some h OA.ne
    obtain ⟨hv, h⟩ := ifO_ok h
    have := vMp0_ok hv
    subst this
    cases h
    rw [e1] at hx
    rw [show X = _ from hx]
    exact ⟨.int .i64 0, by simp [Builtin.len_, ht, run_underlying hu, goInt], rfl, by omega⟩
theorem lenC_ok {ts : Array TypeId} {d n e : TypeId} (ht : ts[0]? = some t) (hu : P.underlying t = some (.array n e) ∨ ∃ a, P.underlying t = some (.pointer a) ∧ P.underlying a = some (.array n e)) (hn : n ≤ 9223372036854775807) : ∃ z, (Builtin.len_ ts d #[X]).run P w = .ok z w ∧ Rv ρ (.i64 n) z := by
  rcases hu with hu | ⟨a, hu, hu'⟩
  · exact ⟨.int .i64 n, by simp [Builtin.len_, ht, run_underlying hu, goInt], rfl, hn⟩
  · exact ⟨.int .i64 n, by simp [Builtin.len_, ht, run_underlying hu, run_underlying hu', goInt], rfl, hn⟩
theorem capA_ok {ts : Array TypeId} {d e : TypeId} (ht : ts[0]? = some t) (hu : P.underlying t = some (.slice e)) (hx : Rv ρ (x T) X) (h : capA x T σ = .ok v) : ∃ z, (Builtin.cap_ ts d #[X]).run P w = .ok z w ∧ Rv ρ v z := by
  unfold capA at h
  rcases onSl_or h with ⟨b, o, l, c, w', kn, e1, h⟩ | h
  · rw [e1] at hx
    obtain ⟨L, c', a, eL, rfl, ha, h1, h2, h3, h4, h5⟩ := hx
    cases kn with
    | false => cases h
    | true =>
      cases h
      have := h3 rfl
      subst this
      exact ⟨.int .i64 c', by simp [Builtin.cap_, ht, run_underlying hu, goInt], rfl, by rw [maxLen_eq] at h4; omega⟩
  · obtain ⟨u, e1, h⟩ := onLit_some h OA.ne
    obtain ⟨hv, h⟩ := ifO_ok h
    have := vSl00_ok hv
    subst this
    cases h
    rw [e1] at hx
    rw [show X = _ from hx]
    exact ⟨.int .i64 0, by simp [Builtin.cap_, ht, run_underlying hu, goInt], rfl, by omega⟩
end
end Go.Proofs.YtaogloegiffioaaGreatDoor
namespace Go.Proofs.YtaogloegiffioaaGreatDoor
section
variable {P : Program} {ρ : Pl} {x y lo : G} {hi : Option G} {T : Tm} {σ : St} {v : AV} {X Y : Value} {t : TypeId} {w : World}
def OptR (ρ : Pl) (g : G) (T : Tm) (o : Option Value) : Prop := (o = none ∧ g T = .i64 0) ∨ ∃ X, o = some X ∧ Rv ρ (g T) X
def OptH (ρ : Pl) (T : Tm) : Option G → Option Value → Prop
  | none, o => o = none
  | some g, o => ∃ X, o = some X ∧ Rv ρ (g T) X
theorem sb_run {k : IntKind} {i m : Nat} {c : BoundsCode} (h : i ≤ m) : (Instr.sliceBound (.int k (i : Int)) m c).run P w = .ok i w := by
  simp [Instr.sliceBound, asIntOf, h]
theorem bounds_run {b : Bool} {len cap : Nat} {lv hv : Option Value} {l h : Nat} (h1 : lv = none ∧ l = 0 ∨ ∃ k, lv = some (.int k (.ofNat l))) (h2 : hv = none ∧ h = len ∨ ∃ k, hv = some (.int k (.ofNat h)) ∧ h ≤ cap) (hl : l ≤ h) :
    (Instr.sliceBounds b len cap lv hv none).run P w = .ok (l, h, cap) w := by
  rcases h1 with ⟨rfl, rfl⟩ | ⟨k, rfl⟩ <;> rcases h2 with ⟨rfl, rfl⟩ | ⟨k', rfl, hc⟩
  · simp [Instr.sliceBounds]
  · simp [Instr.sliceBounds, sb_run hc]
  · simp [Instr.sliceBounds, sb_run hl]
  · simp [Instr.sliceBounds, sb_run hc, sb_run hl]
theorem lo_ok {lv : Option Value} (hl : OptR ρ lo T lv) {k : Nat → OA} (h : onNum (lo T) k .no = .ok v) : ∃ l, k l = .ok v ∧ (lv = none ∧ l = 0 ∨ ∃ q, lv = some (.int q (.ofNat l))) := by
  obtain ⟨l, e, h⟩ := (onNum_or h).resolve_right OA.ne
  refine ⟨l, h, ?_⟩
  rcases hl with ⟨rfl, e2⟩ | ⟨X, rfl, hX⟩
  · rw [e2] at e
    rcases e with e | e | e | e | e <;> first | (injection e with e; exact .inl ⟨rfl, e.symm⟩) | cases e
  · obtain ⟨q, rfl⟩ := Rv_num hX e
    exact .inr ⟨q, rfl⟩
theorem hi_ok {hv : Option Value} (hh : OptH ρ T hi hv) {k : Nat → OA} {len : Nat} (h : orN hi T len k = .ok v) : ∃ i, k i = .ok v ∧ (hv = none ∧ i = len ∨ ∃ q, hv = some (.int q (.ofNat i))) := by
  cases hi with
  | none => exact ⟨len, h, .inl ⟨hh, rfl⟩⟩
  | some g =>
    obtain ⟨X, rfl, hX⟩ := hh
    obtain ⟨i, e, h⟩ := (onNum_or (show onNum (g T) k .no = .ok v from h)).resolve_right OA.ne
    obtain ⟨q, rfl⟩ := Rv_num hX e
    exact ⟨i, h, .inr ⟨q, rfl⟩⟩
theorem sl_s_ok {lv hv : Option Value} (hu : P.underlying t = some .string) (hx : Rv ρ (x T) X) (hl : OptR ρ lo T lv) (hh : OptH ρ T hi hv) (h : sl_s x lo hi T σ = .ok v) :
    ∃ z, (Instr.sliceAt t X lv hv none).run P w = .ok z w ∧ Rv ρ v z := by
  unfold sl_s at h
  obtain ⟨n, a, e1, h⟩ := onS_some h OA.ne
  obtain ⟨l, h, h1⟩ := lo_ok hl h
  obtain ⟨i, h, h2⟩ := hi_ok hh h
  obtain ⟨c1, h⟩ := ifO_ok h
  obtain ⟨c2, h⟩ := ifO_ok h
  rw [e1] at hx
  obtain ⟨rfl, ha, hn⟩ := hx
  cases h
  have c1 : l ≤ i := Nat.le_of_ble_eq_true c1
  have c2 : i ≤ n := Nat.le_of_ble_eq_true c2
  refine ⟨.string ((strOf n a).extract l i), ?_, by rw [strOf_extract c1 c2]; rfl, bitsAt_lt _ _ _ _ _, by show i - l ≤ _; omega⟩
  have hb := bounds_run (P := P) (w := w) (b := false) (len := n) (cap := n) h1 (h2.imp id fun ⟨q, e⟩ => ⟨q, e, c2⟩) c1
  simp [Instr.sliceAt, Instr.slice, run_underlying hu, strOf_size, hb]
theorem sl_l_ok {lv hv : Option Value} {e n : Nat} (hu : P.underlying t = some (.slice e)) (hn : sizeA P e = some n) (hx : Rv ρ (x T) X) (hl : OptR ρ lo T lv) (hh : OptH ρ T hi hv) (h : sl_l n x lo hi T σ = .ok v) :
    ∃ z, (Instr.sliceAt t X lv hv none).run P w = .ok z w ∧ Rv ρ v z := by
  unfold sl_l at h
  rcases onSl_or h with ⟨b, o, l, c, w', kn, e1, h⟩ | h
  · obtain ⟨i, h, h1⟩ := lo_ok hl h
    obtain ⟨j, h, h2⟩ := hi_ok hh h
    obtain ⟨c0, h⟩ := ifO_ok h
    obtain ⟨c1, h⟩ := ifO_ok h
    obtain ⟨c2, h⟩ := ifO_ok h
    rw [e1] at hx
    obtain ⟨L, c', a, eL, rfl, ha, g1, g2, g3, g4, g5⟩ := hx
    cases h
    have c0 : n = w' := Nat.eq_of_beq_eq_true c0
    subst c0
    have c1 : i ≤ j := Nat.le_of_ble_eq_true c1
    have c2 : j ≤ c := Nat.le_of_ble_eq_true c2
    have hb := bounds_run (P := P) (w := w) (b := true) (len := l) (cap := c') h1 (h2.imp id fun ⟨q, e⟩ => ⟨q, e, by omega⟩) c1
    refine ⟨.slice (if c' = i then some ⟨L.r, a, none⟩ else some ⟨L.r, a + i * n, none⟩) (j - i) (c' - i), ?_, L, c' - i, if c' = i then a else a + i * n, eL, ?_, ?_, ?_, ?_, ?_, ?_, ?_⟩
    · simp [Instr.sliceAt, Instr.slice, run_underlying hu, hb, sizeOf_run hn, add_ad]
    · split <;> rfl
    · by_cases hc : c' = i
      · right; omega
      · left
        rw [if_neg hc, ha.resolve_right (by omega)]
        show L.s + o + i * n = L.s + (o + i * n); omega
    · show j - i ≤ c - i; omega
    · show c - i ≤ c' - i; omega
    · intro hk; show c' - i = c - i; rw [g3 hk]
    · omega
    · show L.s + (o + i * n) + (c' - i) * n ≤ L.n
      have : (c' - i) * n + i * n = c' * n := by rw [← Nat.add_mul]; congr 1; omega
      omega
  · obtain ⟨u, e1, h⟩ := onLit_some h OA.ne
    obtain ⟨hv', h⟩ := ifO_ok h
    obtain ⟨c, rfl⟩ := vSl0_ok hv'
    obtain ⟨i, h, h1⟩ := lo_ok hl h
    obtain ⟨c0, h⟩ := ifO_ok h
    have c0 : i = 0 := Nat.eq_of_beq_eq_true c0
    obtain ⟨j, h, h2⟩ := hi_ok hh h
    obtain ⟨c1, h⟩ := ifO_ok h
    have c1 : j = 0 := Nat.eq_of_beq_eq_true c1
    rw [c0] at h1; rw [c1] at h2
    injection h with h
    rw [← h]
    rw [e1] at hx
    rw [show X = _ from hx]
    have hb := bounds_run (P := P) (w := w) (b := true) (len := 0) (cap := c) h1 (h2.imp id fun ⟨q, e⟩ => ⟨q, e, by omega⟩) (Nat.le_refl _)
    exact ⟨.slice none 0 c, by simp [Instr.sliceAt, Instr.slice, run_underlying hu, hb, sizeOf_run hn], rfl⟩
theorem sl_m_ok {hi mx : G} {lv hv mv : Option Value} {e n : Nat} (hu : P.underlying t = some (.slice e)) (hn : sizeA P e = some n) (hx : Rv ρ (x T) X) (hl : OptR ρ lo T lv) (hh : OptH ρ T (some hi) hv) (hm : OptH ρ T (some mx) mv) (h : sl_m n x lo hi mx T σ = .ok v) :
    ∃ z, (Instr.sliceAt t X lv hv mv).run P w = .ok z w ∧ Rv ρ v z := by
  unfold sl_m at h
  obtain ⟨b, o, l, c, w', kn, e1, h⟩ := onSl_some h OA.ne
  obtain ⟨i, h, h1⟩ := lo_ok hl h
  obtain ⟨j, e2, h⟩ := (onNum_or h).resolve_right OA.ne
  obtain ⟨m, e3, h⟩ := (onNum_or h).resolve_right OA.ne
  obtain ⟨Y, rfl, hY⟩ := hh
  obtain ⟨Z, rfl, hZ⟩ := hm
  obtain ⟨q, rfl⟩ := Rv_num hY e2
  obtain ⟨q', rfl⟩ := Rv_num hZ e3
  obtain ⟨c0, h⟩ := ifO_ok h
  obtain ⟨c0, c1⟩ := Bool.and_eq_true_iff.1 c0
  obtain ⟨c2, h⟩ := ifO_ok h
  obtain ⟨c3, h⟩ := ifO_ok h
  rw [e1] at hx
  obtain ⟨L, c', a, eL, rfl, ha, g1, g2, g3, g4, g5⟩ := hx
  cases h
  have c0 : n = w' := Nat.eq_of_beq_eq_true c0
  subst c0
  have c1 : i ≤ j := Nat.le_of_ble_eq_true c1
  have c2 : j ≤ m := Nat.le_of_ble_eq_true c2
  have c3 : m ≤ c := Nat.le_of_ble_eq_true c3
  have c3' : m ≤ c' := by omega
  have hb : (Instr.sliceBounds true l c' lv (some (.int q (j : Int))) (some (.int q' (m : Int)))).run P w = .ok (i, j, m) w := by
    rcases h1 with ⟨rfl, rfl⟩ | ⟨k, rfl⟩ <;> simp [Instr.sliceBounds, sb_run c3', sb_run c2, sb_run c1]
  refine ⟨.slice (if m = i then some ⟨L.r, a, none⟩ else some ⟨L.r, a + i * n, none⟩) (j - i) (m - i), ?_, L, m - i, if m = i then a else a + i * n, eL, ?_, ?_, ?_, Nat.le_refl _, fun _ => rfl, ?_, ?_⟩
  · simp [Instr.sliceAt, Instr.slice, run_underlying hu, hb, sizeOf_run hn, add_ad]
  · split <;> rfl
  · by_cases hc : m = i
    · right; omega
    · left
      rw [if_neg hc, ha.resolve_right (by omega)]
      show L.s + o + i * n = L.s + (o + i * n); omega
  · show j - i ≤ m - i; omega
  · omega
  · show L.s + (o + i * n) + (m - i) * n ≤ L.n
    have : (m - i) * n + i * n ≤ c' * n := by rw [← Nat.add_mul]; exact Nat.mul_le_mul_right _ (by omega)
    omega
theorem sl_a_ok {lv hv : Option Value} {e n N : Nat} (hs : RS ρ σ w) (hu : P.underlying t = some (.array N e) ∨ ∃ a, P.underlying t = some (.pointer a) ∧ P.underlying a = some (.array N e)) (hn : sizeA P e = some n) (hN : N ≤ maxLen) (hx : Rv ρ (x T) X) (hl : OptR ρ lo T lv) (hh : OptH ρ T hi hv) (h : sl_a N n x lo hi T σ = .ok v) :
    ∃ z, (Instr.sliceAt t X lv hv none).run P w = .ok z w ∧ Rv ρ v z := by
  unfold sl_a at h
  obtain ⟨b, o, e1, h⟩ := onP_some h OA.ne
  obtain ⟨tt, M, r, ek, h⟩ := onCells_some h OA.ne
  obtain ⟨c0, h⟩ := ifO_ok h
  obtain ⟨i, h, h1⟩ := lo_ok hl h
  obtain ⟨j, h, h2⟩ := hi_ok hh h
  obtain ⟨c1, h⟩ := ifO_ok h
  obtain ⟨c2, h⟩ := ifO_ok h
  rw [e1] at hx
  obtain ⟨L, eL, rfl⟩ := hx
  cases h
  have c0 : o + N * n ≤ M := Nat.le_of_ble_eq_true c0
  have c1 : i ≤ j := Nat.le_of_ble_eq_true c1
  have c2 : j ≤ N := Nat.le_of_ble_eq_true c2
  have hb := bounds_run (P := P) (w := w) (b := false) (len := N) (cap := N) h1 (h2.imp id fun ⟨q, e⟩ => ⟨q, e, c2⟩) c1
  have hk := hs.blk b L eL
  rw [ek] at hk
  obtain ⟨_, arr, fr, _, k1, k2, _⟩ := hk
  refine ⟨.slice (if N = i then some ⟨L.r, L.s + o, none⟩ else some ⟨L.r, L.s + o + i * n, none⟩) (j - i) (N - i), ?_, L, N - i, if N = i then L.s + o else L.s + o + i * n, eL, ?_, ?_, ?_, Nat.le_refl _, fun _ => rfl, ?_, ?_⟩
  · rcases hu with hu | ⟨a, hu, hu'⟩
    · simp [Instr.sliceAt, run_underlying hu, hb, sizeOf_run hn, add_ad, Instr.sureAddr]; split <;> rfl
    · simp [Instr.sliceAt, Instr.slice, run_underlying hu, run_underlying hu', hb, sizeOf_run hn, add_ad, asAddr]; split <;> rfl
  · split <;> rfl
  · by_cases hc : N = i
    · right; omega
    · left; rw [if_neg hc]; show L.s + o + i * n = L.s + (o + i * n); omega
  · show j - i ≤ N - i; omega
  · omega
  · show L.s + (o + i * n) + (N - i) * n ≤ L.n
    have : (N - i) * n + i * n = N * n := by rw [← Nat.add_mul]; congr 1; omega
    omega
theorem pkEq_ok {a b : PK} (h : pkEq a b = true) : a = b := by cases a <;> cases b <;> first | rfl | cases h
theorem push_digits (l m : Nat) : ∀ (n i : Nat) (s : ByteArray), i + n = l → s.data.toList = (List.range i).map (dg l m) →
    ∀ (W : World), (forIn ((List.range' i n).map fun j => Value.int .u8 (.ofNat (bitsAt 8 l m j 1))) s fun c s => (match c with
      | .int .u8 n => pure (.yield (s.push (UInt8.ofNat n.toNat)))
      | _ => do
        stuck "bytesToString: byte expected"
        pure (.yield s) : Sem (ForInStep ByteArray))).run P W = .ok (strOf l m) W := by
  intro n
  induction n with
  | zero =>
    intro i s h e W
    have : i = l := by omega
    subst this
    have : s = strOf i m := ba_ext (by rw [e, strOf_list])
    rw [this]; simp
  | succ n ih =>
    intro i s h e W
    rw [List.range'_succ, List.map_cons, List.forIn_cons]
    have := ih (i + 1) (s.push (dg l m i)) (by omega) (by rw [ByteArray.data_push, Array.toList_push, e, List.range_succ, List.map_append]; rfl) W
    simp only [Sem.run_bind, Sem.run_pure, Result.andThen_ok]
    exact this
theorem pkN_ok {κ : PK} {a : AV} {f : Nat → Nat → OA} (hs : RS ρ σ w) (hx : Rv ρ a X) (h : pkN κ σ a f = .ok v) :
    (∃ ad n c m, X = .slice (some ad) n c ∧ f n m = .ok v ∧ m < 2 ^ (pkw κ * n) ∧ n ≤ 9223372036854775807 ∧ (0 < n → ∀ j, j < n → w.cell? (ad.add j) = some (pkV κ (bitsAt (pkw κ) n m j 1)))) ∨ (∃ c, X = .slice none 0 c ∧ f 0 0 = .ok v) := by
  unfold pkN at h
  rcases onSl_or h with ⟨b, o, l, c, w', kn, e1, h⟩ | h
  · left
    obtain ⟨κ', tt, n, m, ek, h2⟩ := onPk_some h OA.ne
    obtain ⟨c0, h3⟩ := ifO_ok h2
    obtain ⟨c0, c1⟩ := Bool.and_eq_true_iff.1 c0
    rw [← pkEq_ok c0] at ek
    have c1 : o + l ≤ n := Nat.le_of_ble_eq_true c1
    rw [e1] at hx
    obtain ⟨L, c', ad, eL, rfl, ha, g1, g2, g3, g4, g5⟩ := hx
    have hb := hs.blk b L eL
    rw [ek] at hb
    obtain ⟨_, arr, fr, e, k1, k2, k3, k4, k5⟩ := hb
    refine ⟨_, _, _, _, rfl, h3, bitsAt_lt _ _ _ _ _, by rw [maxLen_eq] at g4; omega, fun h0 j hj => ?_⟩
    rw [ha.resolve_right (by omega), add_ad, cell_of e, bits_sub (by omega) (by omega), Nat.add_assoc]
    exact k5 (o + j) (by omega)
  · right
    obtain ⟨u, e1, h⟩ := onLit_some h OA.ne
    obtain ⟨hv', h⟩ := ifO_ok h
    obtain ⟨c, rfl⟩ := vSl0_ok hv'
    rw [e1] at hx
    exact ⟨c, hx, h⟩
theorem cv_str_ok {src dst e : TypeId} (hs : RS ρ σ w) (h1 : P.underlying src = some (.slice e)) (h2 : P.underlying dst = some .string) (h3 : P.underlying e = some (.int .u8)) (hx : Rv ρ (x T) X) (h : cv_str x T σ = .ok v) :
    ∃ z, (convert src dst X).run P w = .ok z w ∧ Rv ρ v z := by
  unfold cv_str at h
  rcases pkN_ok hs hx h with ⟨ad, n, c, m, rfl, h, hm, hn, hc⟩ | ⟨c, rfl, h⟩
  · cases h
    have hm : m < 2 ^ (8 * n) := hm
    refine ⟨.string (strOf n m), ?_, rfl, hm, hn⟩
    have hld : (loadCells ad n).run P w = .ok ((List.range' 0 n).map fun j => Value.int .u8 (.ofNat (bitsAt 8 n m j 1))).toArray w := by
      have := run_loadCells_list (P := P) w ad ((List.range' 0 n).map fun j => Value.int .u8 (.ofNat (bitsAt 8 n m j 1))) (fun j v hv => by
        have hj : j < n := by
          rcases Nat.lt_or_ge j n with g | g
          · exact g
          · rw [List.getElem?_eq_none (by simp; omega)] at hv; cases hv
        have e2 : ((List.range' 0 n).map fun j => Value.int .u8 (.ofNat (bitsAt 8 n m j 1)))[j]? = some (Value.int .u8 (.ofNat (bitsAt 8 n m j 1))) := by
          rw [List.getElem?_map, List.getElem?_range' hj]; simp
        rw [e2] at hv
        rw [hc (by omega) j hj]; exact hv)
      simpa using this
    have hp := push_digits (P := P) n m n 0 .empty (by omega) rfl w
    have hb : (Conv.bytesToString (.slice (some ad) n c)).run P w = .ok (.string (strOf n m)) w := by
      unfold Conv.bytesToString
      simp only [Sem.run_bind, hld, Result.andThen_ok]
      rw [← Array.forIn_toList]
      exact (congrArg (fun r => Result.andThen r fun a w' => Sem.run P (pure (Value.string a)) w') hp).trans rfl
    simp [convert, run_underlying h1, run_underlying h2, run_underlying h3, hb]
  · cases h
    refine ⟨.string .empty, by simp [convert, run_underlying h1, run_underlying h2, run_underlying h3, Conv.bytesToString], rfl, by omega, by omega⟩
end
end Go.Proofs.YtaogloegiffioaaGreatDoor
namespace Go.Proofs.YtaogloegiffioaaGreatDoor
theorem oneV_ok {u : Value} (h : oneV u = true) : u.oneCell' = true := by cases u <;> first | rfl | cases h
section
variable {P : Program} {ρ : Pl} {x y : G} {T : Tm} {σ : St} {v : AV} {X Y : Value} {t : TypeId} {w : World}
theorem oneC_ok {a : AV} (hx : Rv ρ a X) (h : oneC a = true) : X.oneCell' = true := by
  cases a with
  | lit u => rw [show X = u from hx]; exact oneV_ok h
  | i64 n => rw [hx.1]; rfl
  | u64 n => rw [hx.1]; rfl
  | u8 n => rw [hx.1]; rfl
  | u32 n => rw [hx.1]; rfl
  | i32 n => rw [hx.1]; rfl
  | b n => rw [show X = _ from hx]; rfl
  | s l n => rw [hx.1]; rfl
  | p b o => obtain ⟨L, _, e⟩ := hx; rw [e]; rfl
  | sl b o l c w kn => obtain ⟨L, c', a, _, e, _⟩ := hx; rw [e]; rfl
  | fn f caps => obtain ⟨cs, _, e⟩ := hx; rw [e]; rfl
  | mp b => obtain ⟨L, _, e⟩ := hx; rw [e]; rfl
  | iface t v => obtain ⟨u, _, e⟩ := hx; rw [e]; rfl
  | agg n r => cases h
  | tup l => cases h
theorem one_cells (h : X.oneCell' = true) : X.cells = #[X] := by cases X <;> first | rfl | cases h
def kdOf (ks : Bool) : TypeDesc := if ks then .string else .int .i64
theorem keyE_ok {ks : Bool} {a c : AV} {b : Bool} (hx : Rv ρ a X) (hy : Rv ρ c Y) (h : keyE ks a c = .ok b) : Instr.sameNow (kdOf ks) X Y = some b := by
  cases ks with
  | true =>
    have h : keyEqS a c = .ok b := h
    unfold keyEqS at h
    obtain ⟨l, n, e1, h⟩ := onS_some h (fun h => by cases h)
    obtain ⟨m, k, e2, h⟩ := onS_some h (fun h => by cases h)
    rw [e1] at hx; rw [e2] at hy
    obtain ⟨rfl, h1, _⟩ := hx
    obtain ⟨rfl, h2, _⟩ := hy
    injection h with h
    subst h
    show some (_ == _) = _
    rw [beq_toListBytes, eq_toList h1 h2]
  | false =>
    have h : keyEqI a c = .ok b := h
    unfold keyEqI at h
    obtain ⟨n, e1, h⟩ := onI64_some h (fun h => by cases h)
    obtain ⟨k, e2, h⟩ := onI64_some h (fun h => by cases h)
    rw [e1] at hx; rw [e2] at hy
    obtain ⟨rfl, _⟩ := hx
    obtain ⟨rfl, _⟩ := hy
    injection h with h
    subst h
    show (if IntKind.i64 = IntKind.i64 then some (Int.ofNat n == Int.ofNat k) else none) = _
    rw [if_pos rfl, beq_dec]
    show some (decide (Int.ofNat n = Int.ofNat k)) = _
    congr 2
    exact propext ⟨fun e => by injection e, fun e => by rw [e]⟩
theorem Ents.look_cons (ks : Bool) (k' u : AV) (n : Nat) (r : Ents) (k : AV) : (Ents.cons k' u n r).look ks k = match keyE ks k k' with
    | .no => .bad
    | .ok true => .some u
    | .ok false => r.look ks k := by
  show OB.rec (motive := fun _ => OL) _ _ (keyE ks k k') = _
  cases keyE ks k k' with
  | no => rfl
  | ok b => cases b <;> rfl
theorem look_ok {ks : Bool} {k : AV} (hk : Rv ρ k X) : ∀ (es : Ents) (l : List MapEntry) (i : Nat), Res ρ es l →
    (es.look ks k = .none → Instr.findNow (kdOf ks) X l i = some none) ∧ (∀ u, es.look ks k = .some u → ∃ j m, i ≤ j ∧ l[j - i]? = some m ∧ Instr.findNow (kdOf ks) X l i = some (some (j, m.val)) ∧ Rv ρ u m.val)
  | .nil, l, i, h => by
    rw [show l = [] from h]
    exact ⟨fun _ => rfl, fun u h => by cases h⟩
  | .cons k' u n r, l, i, ⟨m, q, e, h1, h2, h3, h4⟩ => by
    subst e
    have ih := look_ok (ks := ks) hk r q (i + 1) h4
    rw [Ents.look_cons]
    cases hb : keyE ks k k' with
    | no => exact ⟨fun h => (by cases h), fun u h => by cases h⟩
    | ok b =>
      have hs := keyE_ok hk h1 hb
      cases b with
      | true =>
        refine ⟨fun h => (by cases h), fun u' h => ?_⟩
        cases h
        exact ⟨i, m, Nat.le_refl _, by simp, by simp [Instr.findNow, hs], h2⟩
      | false =>
        refine ⟨fun h => ?_, fun u' h => ?_⟩
        · simp [Instr.findNow, hs, ih.1 h]
        · obtain ⟨j, m', g1, g2, g3, g4⟩ := ih.2 u' h
          refine ⟨j, m', by omega, ?_, by simp [Instr.findNow, hs, g3], g4⟩
          rw [show j - i = (j - (i + 1)) + 1 by omega, List.getElem?_cons_succ]; exact g2
theorem okKey_ok {ks : Bool} {k : AV} (hk : Rv ρ k X) (h : okKey ks k = true) : (ks = true ∧ ∃ s, X = .string s) ∨ (ks = false ∧ ∃ n, X = .int .i64 n) := by
  cases ks with
  | true =>
    obtain ⟨l, n, e, _⟩ := onS_some (show onS k (fun _ _ => true) false = true from h) (by decide)
    rw [e] at hk
    exact .inl ⟨rfl, _, hk.1⟩
  | false =>
    obtain ⟨n, e, _⟩ := onI64_some (show onI64 k (fun _ => true) false = true from h) (by decide)
    rw [e] at hk
    exact .inr ⟨rfl, _, hk.1⟩
theorem checkKey_run {ks : Bool} {k : AV} {kt : TypeId} (hu : P.underlying kt = some (kdOf ks)) (hk : Rv ρ k X) (h : okKey ks k = true) (b : Bool) (n : Nat) : (Instr.checkKey b (n + 1) kt X).run P w = .ok () w := by
  rcases okKey_ok hk h with ⟨rfl, s, rfl⟩ | ⟨rfl, s, rfl⟩ <;> simp [Instr.checkKey, run_underlying hu, kdOf]
theorem zero_okT {ok f : Bool} {z : AV} {Z : Value} (hz : Rv ρ z Z) : Rv ρ (okT ok f z) (if ok then .tuple #[Z, .bool f] else Z) := by
  cases ok with
  | false => exact hz
  | true => exact ⟨[Z, .bool f], ⟨Z, [.bool f], rfl, hz, .bool f, [], rfl, rfl, rfl⟩, rfl⟩
theorem findKey_run {kt : TypeId} {ks : Bool} (hu : P.underlying kt = some (kdOf ks)) {l : List MapEntry} {r : Option (Nat × Value)} (h : Instr.findNow (kdOf ks) X l 0 = some r) : (Instr.findKey kt X l).run P w = .ok r w := by
  simp [Instr.findKey, run_underlying hu, h]
theorem lkp_ok {kt el : TypeId} {ks ok : Bool} {z : AV} {Z : Value} (hs : RS ρ σ w) (hu : P.underlying t = some (.map kt el)) (hk : P.underlying kt = some (kdOf ks)) (hz : Rv ρ z Z) (hzr : ∀ w, (zeroValue el).run P w = .ok Z w)
    (hx : Rv ρ (x T) X) (hy : Rv ρ (y T) Y) (h : lkp ks z x y ok T σ = .ok v) : ∃ u, (Instr.lookup t X Y ok).run P w = .ok u w ∧ Rv ρ v u := by
  unfold lkp at h
  obtain ⟨c0, h⟩ := ifO_ok h
  unfold mapOf at h
  have hck := fun b n => checkKey_run (P := P) (w := w) hk hy c0 b n
  rcases onMp_or h with ⟨b, e1, h⟩ | h
  · rcases onMap_or h with ⟨es, c, ek, h⟩ | h
    case inr => rw [e1] at h; cases h
    have h : lookF ok z (es.look ks (y T)) = .ok v := h
    rw [e1] at hx
    obtain ⟨L, eL, rfl⟩ := hx
    have hb := hs.blk b L eL
    rw [ek] at hb
    obtain ⟨_, arr, e2, h2⟩ := hb
    have hl := look_ok (ks := ks) hy es arr.toList 0 h2
    have hck' := hck arr.isEmpty 9999
    cases hr : es.look ks (y T) with
    | bad => rw [hr] at h; cases h
    | none =>
      rw [hr] at h
      cases h
      have hf := findKey_run (P := P) (w := w) hk (hl.1 hr)
      refine ⟨_, ?_, zero_okT hz⟩
      simp [Instr.lookup, run_underlying hu, getMap_run e2, hck', hf, hzr]
    | some u =>
      rw [hr] at h
      cases h
      obtain ⟨j, m, _, _, g3, g4⟩ := hl.2 u hr
      have hf := findKey_run (P := P) (w := w) hk g3
      refine ⟨_, ?_, zero_okT g4⟩
      simp [Instr.lookup, run_underlying hu, getMap_run e2, hck', hf]
  · obtain ⟨u, e1, h⟩ := onLit_some h OA.ne
    obtain ⟨hv, h⟩ := ifO_ok h
    have := vMp0_ok hv
    rw [this] at e1
    rw [e1] at hx
    rw [show X = _ from hx]
    cases h
    have hck' := hck true 9999
    have hf := findKey_run (P := P) (w := w) (X := Y) hk (l := []) (r := none) rfl
    refine ⟨_, ?_, zero_okT hz⟩
    simp [Instr.lookup, run_underlying hu, hck', hf, hzr]
theorem tas_ok {xt : TypeId} {d : TypeDesc} {ok : Bool} {z : AV} {Z : Value} (hu : P.underlying t = some d) (hd : ∀ ms, d ≠ .interface ms) (hz : Rv ρ z Z) (hzr : ∀ w, (zeroValue t).run P w = .ok Z w)
    (hx : Rv ρ (x T) X) (h : tas t z ok x T σ = .ok v) : ∃ u, (Instr.typeAssert X xt t ok).run P w = .ok u w ∧ Rv ρ v u := by
  unfold tas at h
  rcases onIface_or h with ⟨u, a, e1, h⟩ | h
  · rw [e1] at hx
    obtain ⟨A, hA, rfl⟩ := hx
    cases hb : Nat.beq u t with
    | true =>
      rw [hb] at h
      cases h
      have hut : u = t := Nat.eq_of_beq_eq_true hb
      refine ⟨_, ?_, zero_okT (ok := ok) (f := true) hA⟩
      cases d <;> first | exact absurd rfl (hd _) | simp [Instr.typeAssert, run_underlying hu, hut]
    | false =>
      rw [hb] at h
      have hut : ¬ u = t := fun e => by rw [e] at hb; simp at hb
      cases ok with
      | false => cases h
      | true =>
        cases h
        refine ⟨.tuple #[Z, .bool false], ?_, [Z, .bool false], ⟨Z, [.bool false], rfl, hz, .bool false, [], rfl, rfl, rfl⟩, rfl⟩
        cases d <;> first | exact absurd rfl (hd _) | simp [Instr.typeAssert, run_underlying hu, hut, hzr]
  · cases ok with
    | false => cases h
    | true =>
      obtain ⟨u, e1, h⟩ := onLit_some (z := OA.no) (r := OA.ok v) h OA.ne
      obtain ⟨hv, h⟩ := ifO_ok h
      have := vNI_ok hv
      rw [this] at e1
      rw [e1] at hx
      rw [show X = _ from hx]
      cases h
      refine ⟨.tuple #[Z, .bool false], ?_, [Z, .bool false], ⟨Z, [.bool false], rfl, hz, .bool false, [], rfl, rfl, rfl⟩, rfl⟩
      cases d <;> first | exact absurd rfl (hd _) | simp [Instr.typeAssert, run_underlying hu, hzr]
theorem ext_ok {i : Nat} (hx : Rv ρ (x T) X) (h : ext i x T σ = .ok v) : ∃ u, (Instr.extract X i).run P w = .ok u w ∧ Rv ρ v u := by
  unfold ext at h
  obtain ⟨l, e1, h⟩ := onTup_some h OA.ne
  rw [e1] at hx
  obtain ⟨cs, hl, rfl⟩ := hx
  rcases hl.nth i with ⟨a, u, h1, h2, h3⟩ | ⟨h1, _⟩
  · rw [h1] at h; cases h
    exact ⟨u, by simp [Instr.extract, h2], h3⟩
  · rw [h1] at h; cases h
theorem min_ok {ts : Array TypeId} {d : TypeId} (hx : Rv ρ (x T) X) (hy : Rv ρ (y T) Y) (h : mmA false x y T σ = .ok v) : ∃ u, (Builtin.min_ ts d #[X, Y]).run P w = .ok u w ∧ Rv ρ v u := by
  unfold mmA at h
  obtain ⟨a, e1, h⟩ := onI64_some h OA.ne
  obtain ⟨b, e2, h⟩ := onI64_some h OA.ne
  rw [e1] at hx; rw [e2] at hy
  obtain ⟨rfl, ha⟩ := hx
  obtain ⟨rfl, hb⟩ := hy
  cases h
  refine ⟨.int .i64 (if (Int.ofNat b) < (Int.ofNat a) then .ofNat b else .ofNat a), by simp [Builtin.min_, Builtin.min2], ?_⟩
  show Rv ρ (.i64 (Bool.rec a b (Nat.ble (Nat.succ b) a))) _
  cases hc : Nat.ble (Nat.succ b) a with
  | true =>
    have : b < a := Nat.le_of_ble_eq_true hc
    rw [if_pos (show Int.ofNat b < Int.ofNat a by show (b : Int) < (a : Int); omega)]; exact ⟨rfl, hb⟩
  | false =>
    have : ¬ b < a := fun hlt => by rw [Nat.ble_eq_true_of_le hlt] at hc; cases hc
    rw [if_neg (show ¬ Int.ofNat b < Int.ofNat a by show ¬ (b : Int) < (a : Int); omega)]; exact ⟨rfl, ha⟩
theorem max_ok {ts : Array TypeId} {d : TypeId} (hx : Rv ρ (x T) X) (hy : Rv ρ (y T) Y) (h : mmA true x y T σ = .ok v) : ∃ u, (Builtin.max_ ts d #[X, Y]).run P w = .ok u w ∧ Rv ρ v u := by
  unfold mmA at h
  obtain ⟨a, e1, h⟩ := onI64_some h OA.ne
  obtain ⟨b, e2, h⟩ := onI64_some h OA.ne
  rw [e1] at hx; rw [e2] at hy
  obtain ⟨rfl, ha⟩ := hx
  obtain ⟨rfl, hb⟩ := hy
  cases h
  refine ⟨.int .i64 (if (Int.ofNat b) > (Int.ofNat a) then .ofNat b else .ofNat a), by simp [Builtin.max_, Builtin.max2], ?_⟩
  show Rv ρ (.i64 (Bool.rec a b (Nat.ble (Nat.succ a) b))) _
  cases hc : Nat.ble (Nat.succ a) b with
  | true =>
    have : a < b := Nat.le_of_ble_eq_true hc
    rw [if_pos (show Int.ofNat b > Int.ofNat a by show (b : Int) > (a : Int); omega)]; exact ⟨rfl, hb⟩
  | false =>
    have : ¬ a < b := fun hlt => by rw [Nat.ble_eq_true_of_le hlt] at hc; cases hc
    rw [if_neg (show ¬ Int.ofNat b > Int.ofNat a by show ¬ (b : Int) > (a : Int); omega)]; exact ⟨rfl, ha⟩
theorem mkI_ok {d : TypeDesc} (hu : P.underlying t = some d) (hd : ∀ ms, d ≠ .interface ms) (hx : Rv ρ (x T) X) : (Instr.makeInterface t X).run P w = .ok (.iface t X) w ∧ Rv ρ (.iface t (x T)) (.iface t X) := by
  refine ⟨?_, X, hx, rfl⟩
  cases d <;> first | exact absurd rfl (hd _) | simp [Instr.makeInterface, run_underlying hu]
theorem pick_ok {c a b : G} {C A B : Value} (hc : Rv ρ (c T) C) (ha : Rv ρ (a T) A) (hb : Rv ρ (b T) B) (h : pick c a b T σ = .ok v) : ∃ u, (do pure (.value (if ← asBool C then A else B)) : Sem Next).run P w = .ok (.value u) w ∧ Rv ρ v u := by
  unfold pick at h
  obtain ⟨t, e1, h⟩ := onB_some h OA.ne
  rw [e1] at hc
  rw [show C = _ from hc]
  cases t with
  | true => cases h; exact ⟨A, by simp [asBool], ha⟩
  | false => cases h; exact ⟨B, by simp [asBool], hb⟩
theorem foldl_set : ∀ (vs : List Value) (off j : Nat) (cs : Array Value), off + j + vs.length ≤ cs.size →
    ((vs.zipIdx j).foldl (fun cs (p : Value × Nat) => cs.setIfInBounds (off + p.2) p.1) cs).toList = cs.toList.take (off + j) ++ (vs ++ cs.toList.drop (off + j + vs.length))
  | [], off, j, cs, _ => by simp
  | v :: r, off, j, cs, h => by
    rw [List.zipIdx_cons, List.foldl_cons, foldl_set r off (j + 1) _ (by simp at h ⊢; omega)]
    simp only [Array.toList_setIfInBounds]
    have hlt : off + j < cs.toList.length := by simp at h ⊢; omega
    rw [show off + (j + 1) = off + j + 1 by omega]
    rw [List.take_add_one, List.getElem?_set_self hlt, List.take_set_of_le (Nat.le_refl _), List.drop_set_of_lt (by omega)]
    simp [Nat.add_assoc, Nat.add_comm 1]
inductive Ps (ρ : Pl) (T : Tm) (pl : Nat → Option (Nat × Nat)) : PL → List (Nat × Value) → Prop
  | nil : Ps ρ T pl .nil []
  | one {i o : Nat} {x : G} {X : Value} {r : PL} {l : List (Nat × Value)} (hp : pl i = some (o, 1)) (h : Rv ρ (x T) X) (t : Ps ρ T pl r l) : Ps ρ T pl (.one o x r) ((i, X) :: l)
  | many {i o n : Nat} {x : G} {X : Value} {r : PL} {l : List (Nat × Value)} (hp : pl i = some (o, n)) (h : Rv ρ (x T) X) (t : Ps ρ T pl r l) : Ps ρ T pl (.many o n x r) ((i, X) :: l)
def RowOf (ρ : Pl) (r : Row) (cs : List Value) : Prop := r.good ∧ cs.length ≤ r.cap ∧ ∀ i y, cs[i]? = some y → Rw ρ r i y
theorem splice_get {cs vs : List Value} {o : Nat} (h : o + vs.length ≤ cs.length) (i : Nat) : (cs.take o ++ (vs ++ cs.drop (o + vs.length)))[i]? = if o ≤ i ∧ i < o + vs.length then vs[i - o]? else cs[i]? := by
  have h1 : (cs.take o).length = o := by simp; omega
  by_cases hi : i < o
  · rw [List.getElem?_append_left (by omega), List.getElem?_take, if_pos hi, if_neg (by omega)]
  · rw [List.getElem?_append_right (by omega), h1]
    by_cases hi2 : i < o + vs.length
    · rw [List.getElem?_append_left (by omega), if_pos ⟨by omega, hi2⟩]
    · rw [List.getElem?_append_right (by omega), if_neg (by omega), List.getElem?_drop]; congr 1; omega
theorem RowOf.splice {r q : Row} {cs vs : List Value} {o : Nat} (hr : RowOf ρ r cs) (ho : o + vs.length ≤ cs.length) (hg : q.good) (hc : r.cap ≤ q.cap)
    (h1 : ∀ j y, vs[j]? = some y → Rw ρ q (o + j) y) (h2 : ∀ j, j < cs.length → (j < o ∨ o + vs.length ≤ j) → ∀ u, r.get j = .ok u → q.get j = .ok u) : RowOf ρ q (cs.take o ++ (vs ++ cs.drop (o + vs.length))) := by
  obtain ⟨g1, g2, g3⟩ := hr
  refine ⟨hg, by simp; omega, fun i y hy => ?_⟩
  rw [splice_get ho] at hy
  split at hy
  · next hi =>
    have := h1 _ _ hy
    rwa [show o + (i - o) = i by omega] at this
  · next hi =>
    have hlt : i < cs.length := by
      rcases Nat.lt_or_ge i cs.length with g | g
      · exact g
      · rw [List.getElem?_eq_none g] at hy; cases hy
    obtain ⟨u, e1, e2, e3⟩ := (Rw_get r i y).1 (g3 i y hy)
    exact (Rw_get q i y).2 ⟨u, h2 i hlt (by omega) u e1, e2, e3⟩
theorem fill_ok {pl : Nat → Option (Nat × Nat)} : ∀ {l : PL} {vs : List (Nat × Value)} {z r : Row} {cs : Array Value}, Ps ρ T pl l vs → (∀ i o n, pl i = some (o, n) → o + n ≤ cs.size) → fillR l T z = .ok r → RowOf ρ z cs.toList →
    ∃ ds, Instr.fill pl cs vs = some ds ∧ RowOf ρ r ds.toList ∧ ds.size = cs.size := by
  intro l vs z r cs hps
  induction hps generalizing z cs with
  | nil => intro _ h hz; cases h; exact ⟨cs, rfl, hz, rfl⟩
  | @one i o x X rest l' hp hX _ ih =>
    intro hb h hz
    have h : Bool.rec (motive := fun _ => OR) .no (fillR rest T (z.set 0 o (x T))) (oneC (x T)) = .ok r := h
    cases hc : oneC (x T) with
    | false => rw [hc] at h; cases h
    | true =>
      rw [hc] at h
      have h : fillR rest T (z.set 0 o (x T)) = .ok r := h
      have h1 := oneC_ok hX hc
      have hcells := one_cells h1
      have ho := hb i o 1 hp
      obtain ⟨z1, z2, z3⟩ := hz
      have hlen : cs.toList.length = cs.size := by simp
      obtain ⟨s1, s2, s3, s4⟩ := Row.set_good z1 (show o < z.cap by omega) 0 (x T)
      have hsz : (X.cells.zipIdx.foldl (fun cs (p : Value × Nat) => cs.setIfInBounds (o + p.2) p.1) cs).toList = cs.toList.take o ++ ([X] ++ cs.toList.drop (o + [X].length)) := by
        rw [hcells, ← Array.foldl_toList, Array.toList_zipIdx]
        exact foldl_set [X] o 0 cs (by simp; omega)
      have hro : RowOf ρ (z.set 0 o (x T)) (cs.toList.take o ++ ([X] ++ cs.toList.drop (o + [X].length))) := by
        refine RowOf.splice ⟨z1, z2, z3⟩ (by simp; omega) s1 (by omega) (fun j y hy => ?_) (fun j hj hor u hu => s4 j (by omega) (by simp at hor; omega) u hu)
        cases j with
        | zero => simp at hy; subst hy; exact (Rw_get _ _ _).2 ⟨x T, s3, hX, h1⟩
        | succ j => simp at hy
      have hszz : (X.cells.zipIdx.foldl (fun cs (p : Value × Nat) => cs.setIfInBounds (o + p.2) p.1) cs).size = cs.size := by
        rw [← Array.length_toList, hsz]; simp; omega
      obtain ⟨ds, d1, d2, d3⟩ := ih (cs := X.cells.zipIdx.foldl (fun cs (p : Value × Nat) => cs.setIfInBounds (o + p.2) p.1) cs) (fun i o n e => by rw [hszz]; exact hb i o n e) h (by rw [hsz]; exact hro)
      refine ⟨ds, ?_, d2, d3.trans hszz⟩
      unfold Instr.fill
      rw [hp]
      simp only
      rw [if_neg (by rw [hcells]; simp; omega)]
      exact d1
  | @many i o n x X rest l' hp hX _ ih =>
    intro hb h hz
    change onAgg (x T) (fun m r => Bool.rec (motive := fun _ => OR) .no (OR.rec (motive := fun _ => OR) .no (fillR rest T) (Row.copy n z o r 0)) (Nat.beq m n)) .no = .ok r at h
    obtain ⟨m, q, e1, h⟩ := onAgg_some h (fun h => by cases h)
    cases hm : Nat.beq m n with
    | false => rw [hm] at h; cases h
    | true =>
      rw [hm] at h
      have hmn : m = n := Nat.eq_of_beq_eq_true hm
      cases hcp : Row.copy n z o q 0 with
      | no => rw [hcp] at h; cases h
      | ok z' =>
        rw [hcp] at h
        have h : fillR rest T z' = .ok r := h
        rw [e1] at hX
        obtain ⟨xs, rfl, x1, x2, x3, x4⟩ := hX
        have ho := hb i o n hp
        obtain ⟨z1, z2, z3⟩ := hz
        have hlen : cs.toList.length = cs.size := by simp
        obtain ⟨s1, s2, s3, s4, s5⟩ := Row.copy_spec n z o q 0 z' hcp z1 (by omega)
        have hxs : xs.length = n := by omega
        have hsz : (xs.toArray.zipIdx.foldl (fun cs (p : Value × Nat) => cs.setIfInBounds (o + p.2) p.1) cs).toList = cs.toList.take o ++ (xs ++ cs.toList.drop (o + xs.length)) := by
          rw [← Array.foldl_toList, Array.toList_zipIdx]
          exact foldl_set xs o 0 cs (by omega)
        have hro : RowOf ρ z' (cs.toList.take o ++ (xs ++ cs.toList.drop (o + xs.length))) := by
          refine RowOf.splice ⟨z1, z2, z3⟩ (by omega) s1 s3 (fun j y hy => ?_) (fun j hj hor u hu => s5 j (by omega) (by omega) u hu)
          have hj : j < n := by
            rcases Nat.lt_or_ge j n with g | g
            · exact g
            · rw [List.getElem?_eq_none (by omega)] at hy; cases hy
          obtain ⟨u, u1, u2⟩ := s4 j hj
          rw [Nat.zero_add] at u1
          exact Rw_congr (u1.trans u2.symm) (x4 j y hy)
        have hszz : (xs.toArray.zipIdx.foldl (fun cs (p : Value × Nat) => cs.setIfInBounds (o + p.2) p.1) cs).size = cs.size := by
          rw [← Array.length_toList, hsz]; simp; omega
        obtain ⟨ds, d1, d2, d3⟩ := ih (cs := xs.toArray.zipIdx.foldl (fun cs (p : Value × Nat) => cs.setIfInBounds (o + p.2) p.1) cs) (fun i o n e => by rw [hszz]; exact hb i o n e) h (by rw [hsz]; exact hro)
        refine ⟨ds, ?_, d2, d3.trans hszz⟩
        unfold Instr.fill
        rw [hp]
        simp only
        rw [if_neg (by simp [Value.cells]; omega)]
        exact d1
end
end Go.Proofs.YtaogloegiffioaaGreatDoor
namespace Go.Proofs.YtaogloegiffioaaGreatDoor
def beS (s : ByteArray) : Nat := num s.data.toList
noncomputable def cA1 : Value → AV
  | .string s => if s.data.toList.length ≤ 9223372036854775807 then .s s.data.toList.length (beS s) else .lit (.string s)
  | v => normV v
theorem strOf_beS (s : ByteArray) : strOf s.data.toList.length (beS s) = s := by
  have key : ∀ l : List UInt8, (List.range l.length).map (dg l.length (num l)) = l := by
    intro l
    induction l with
    | nil => rfl
    | cons d r ih =>
      have h1 : (d.toNat * 256 ^ r.length + num r) / 256 ^ r.length = d.toNat := by
        rw [Nat.mul_comm, Nat.mul_add_div (Nat.pow_pos (by omega)), Nat.div_eq_of_lt (num_lt r), Nat.add_zero]
      have h2 : (d.toNat * 256 ^ r.length + num r) % 256 ^ r.length = num r := by
        rw [Nat.mul_comm, Nat.mul_add_mod, Nat.mod_eq_of_lt (num_lt r)]
      rw [List.length_cons, digits_succ, num, h1, h2, ih]
      congr 1
      rw [Nat.mod_eq_of_lt d.toNat_lt]; simp
  refine ba_ext ?_
  rw [strOf_list]; exact key _
theorem cA1_ok {ρ : Pl} (v : Value) : Rv ρ (cA1 v) v := by
  unfold cA1
  split
  · next s =>
    split
    · next h => exact ⟨by rw [strOf_beS], by rw [← pow256]; exact num_lt _, h⟩
    · exact rfl
  · exact normV_ok _
def mkRowD : Nat → List AV → Row
  | 0, l => if l.isEmpty then .e else .l (l.getD 0 undefA) (l.getD 1 undefA) (l.getD 2 undefA) (l.getD 3 undefA) (l.getD 4 undefA) (l.getD 5 undefA) (l.getD 6 undefA) (l.getD 7 undefA)
  | d + 1, l => if l.isEmpty then .e else .n (8 ^ (d + 1)) (mkRowD d ((l.drop (0 * 8 ^ (d + 1))).take (8 ^ (d + 1)))) (mkRowD d ((l.drop (1 * 8 ^ (d + 1))).take (8 ^ (d + 1)))) (mkRowD d ((l.drop (2 * 8 ^ (d + 1))).take (8 ^ (d + 1)))) (mkRowD d ((l.drop (3 * 8 ^ (d + 1))).take (8 ^ (d + 1)))) (mkRowD d ((l.drop (4 * 8 ^ (d + 1))).take (8 ^ (d + 1)))) (mkRowD d ((l.drop (5 * 8 ^ (d + 1))).take (8 ^ (d + 1)))) (mkRowD d ((l.drop (6 * 8 ^ (d + 1))).take (8 ^ (d + 1)))) (mkRowD d ((l.drop (7 * 8 ^ (d + 1))).take (8 ^ (d + 1))))
def depthOf (n : Nat) : Nat := if n ≤ 8 then 0 else if n ≤ 64 then 1 else if n ≤ 512 then 2 else 3
def mkRow (l : List AV) : Row := mkRowD (depthOf l.length) l
theorem mkRowD_ok : ∀ (d : Nat) (l : List AV), l.length ≤ 8 ^ (d + 1) → (mkRowD d l).ok d ∧ (l ≠ [] → (mkRowD d l).cap = 8 ^ (d + 1)) ∧ ∀ i a, l[i]? = some a → (mkRowD d l).get i = .ok a
  | 0, l, h => by
    unfold mkRowD
    cases l with
    | nil => exact ⟨trivial, fun h => absurd rfl h, fun i a h => by simp at h⟩
    | cons a r =>
      refine ⟨rfl, fun _ => rfl, fun i b hb => ?_⟩
      have hi : i < 8 := by
        rcases Nat.lt_or_ge i (a :: r).length with g | g
        · have : 8 ^ (0 + 1) = 8 := rfl
          omega
        · rw [List.getElem?_eq_none g] at hb; cases hb
      simp only [List.isEmpty_cons, Bool.false_eq_true, if_false]
      rw [Row.get_l]
      have e : ∀ j, j < 8 → sel8 j ((a :: r).getD 0 undefA) ((a :: r).getD 1 undefA) ((a :: r).getD 2 undefA) ((a :: r).getD 3 undefA) ((a :: r).getD 4 undefA) ((a :: r).getD 5 undefA) ((a :: r).getD 6 undefA) ((a :: r).getD 7 undefA) = (a :: r).getD j undefA := fun j hj => by
        rcases j with _ | _ | _ | _ | _ | _ | _ | _ | j <;> first | rfl | omega
      rw [e i hi, List.getD_eq_getElem?_getD, hb]; rfl
  | d + 1, l, h => by
    unfold mkRowD
    cases l with
    | nil => exact ⟨trivial, fun h => absurd rfl h, fun i a h => by simp at h⟩
    | cons a r =>
      simp only [List.isEmpty_cons, Bool.false_eq_true, if_false]
      have hp : 8 ^ (d + 1 + 1) = 8 * 8 ^ (d + 1) := by rw [Nat.pow_succ, Nat.mul_comm]
      have hpos := pow8_pos (d + 1)
      have kid : ∀ j, j < 8 → sel8 j (mkRowD d (((a :: r).drop (0 * 8 ^ (d + 1))).take (8 ^ (d + 1)))) (mkRowD d (((a :: r).drop (1 * 8 ^ (d + 1))).take (8 ^ (d + 1)))) (mkRowD d (((a :: r).drop (2 * 8 ^ (d + 1))).take (8 ^ (d + 1)))) (mkRowD d (((a :: r).drop (3 * 8 ^ (d + 1))).take (8 ^ (d + 1)))) (mkRowD d (((a :: r).drop (4 * 8 ^ (d + 1))).take (8 ^ (d + 1)))) (mkRowD d (((a :: r).drop (5 * 8 ^ (d + 1))).take (8 ^ (d + 1)))) (mkRowD d (((a :: r).drop (6 * 8 ^ (d + 1))).take (8 ^ (d + 1)))) (mkRowD d (((a :: r).drop (7 * 8 ^ (d + 1))).take (8 ^ (d + 1)))) = mkRowD d (((a :: r).drop (j * 8 ^ (d + 1))).take (8 ^ (d + 1))) := fun j hj => by
        rcases j with _ | _ | _ | _ | _ | _ | _ | _ | j <;> first | rfl | omega
      have ihk : ∀ j, _ := fun j => mkRowD_ok d (((a :: r).drop (j * 8 ^ (d + 1))).take (8 ^ (d + 1))) (by simp; omega)
      refine ⟨Row.ok_n.2 ⟨d, rfl, rfl, fun j hj => by rw [kid j hj]; exact (ihk j).1⟩, fun _ => by show 8 * 8 ^ (d + 1) = _; omega, fun i b hb => ?_⟩
      have hi : i < 8 ^ (d + 1 + 1) := by
        rcases Nat.lt_or_ge i (a :: r).length with g | g
        · omega
        · rw [List.getElem?_eq_none g] at hb; cases hb
      have hq : i / 8 ^ (d + 1) < 8 := by rw [Nat.div_lt_iff_lt_mul hpos]; omega
      rw [Row.get_n, kid _ hq]
      refine (ihk _).2.2 _ _ ?_
      rw [List.getElem?_take, if_pos (Nat.mod_lt _ hpos), List.getElem?_drop, Nat.mul_comm, Nat.div_add_mod]
      exact hb
theorem mkRow_ok {l : List AV} (h : l.length ≤ 4096) : (mkRow l).good ∧ l.length ≤ (mkRow l).cap ∧ ∀ i a, l[i]? = some a → (mkRow l).get i = .ok a := by
  have hd : l.length ≤ 8 ^ (depthOf l.length + 1) := by
    unfold depthOf
    have e1 : 8 ^ (0 + 1) = 8 := rfl
    have e2 : 8 ^ (1 + 1) = 64 := rfl
    have e3 : 8 ^ (2 + 1) = 512 := rfl
    have e4 : 8 ^ (3 + 1) = 4096 := rfl
    split
    · omega
    · split
      · omega
      · split <;> omega
  obtain ⟨g1, g2, g3⟩ := mkRowD_ok (depthOf l.length) l hd
  refine ⟨⟨_, g1⟩, ?_, g3⟩
  by_cases hl : l = []
  · subst hl; exact Nat.zero_le _
  · show _ ≤ (mkRowD (depthOf l.length) l).cap
    rw [g2 hl]; exact hd
theorem mkRow_of {ρ : Pl} {cs : List Value} (h : cs.length ≤ 4096) (h1 : cs.all oneV = true) : RowOf ρ (mkRow (cs.map cA1)) cs := by
  obtain ⟨g1, g2, g3⟩ := mkRow_ok (l := cs.map cA1) (by simpa using h)
  refine ⟨g1, by simpa using g2, fun i y hy => (Rw_get _ _ _).2 ⟨cA1 y, g3 i _ (by rw [List.getElem?_map, hy]; rfl), cA1_ok y, oneV_ok ?_⟩⟩
  exact List.all_eq_true.1 h1 y (List.mem_of_getElem? hy)
def zrowA (P : Program) (t : TypeId) : Option (List Value) := match P.info? t with
  | some i => match i.zero with
    | some v => if v.cells.toList.length ≤ 4096 && v.cells.toList.all oneV then some v.cells.toList else none
    | none => none
  | none => none
theorem zrow_run {P : Program} {t : TypeId} {l : List Value} (h : zrowA P t = some l) : ∃ z i, P.info? t = some i ∧ i.zero = some z ∧ l = z.cells.toList ∧ l.length ≤ 4096 ∧ l.all oneV = true ∧ ∀ w, (zeroValue t).run P w = .ok z w := by
  unfold zrowA at h
  cases hi : P.info? t with
  | none => rw [hi] at h; cases h
  | some i =>
    rw [hi] at h
    simp only at h
    cases hz : i.zero with
    | none => rw [hz] at h; cases h
    | some z =>
      rw [hz] at h
      simp only at h
      split at h
      · next hc =>
        injection h with h; subst h
        obtain ⟨c1, c2⟩ := Bool.and_eq_true_iff.1 hc
        exact ⟨z, i, rfl, hz, rfl, by simpa using c1, c2, fun w => by simp [zeroValue, typeInfo, hi, hz]⟩
      · cases h
def NRes (ρ : Pl) (w : World) (k : Blk) (f : Bid → AV) (x : Value) (w' : World) : Prop :=
  w'.os = w.os ∧ w'.tape = w.tape ∧ w'.output = w.output ∧ w.heap.size ≤ w'.heap.size ∧ (∀ r, r < w.heap.size → w'.heap[r]? = w.heap[r]?) ∧
    ∃ L : Loc, w.heap.size ≤ L.r ∧ w.heap.size ≤ L.q ∧ ∀ (ρ' : Pl) (b : Bid), Sub ρ ρ' → ρ' b = some L → RB ρ' w' L k ∧ Rv ρ' (f b) x
theorem nres_ok {ρ : Pl} {σ : St} {w w' : World} {k : Blk} {f : Bid → AV} {x : Value} (hs : RS ρ σ w) (hl : notLast σ.nx = true) (h : NRes ρ w k f x w') :
    ∃ ρ', Rv ρ' (f σ.nx) x ∧ RS ρ' (σ.new k) w' ∧ Step σ ρ w (σ.new k) ρ' w' := by
  obtain ⟨h1, h2, h3, h4, h5, L, h6, h7, h8⟩ := h
  obtain ⟨g1, g2⟩ := h8 (pext ρ σ.nx L) σ.nx (ext_sub hs.fresh) (ext_self _ _ _)
  obtain ⟨k1, k2⟩ := new_ok hs hl k L h1 h2 h3 h4 h5 h6 h7 g1
  exact ⟨_, g2, k1, k2⟩
theorem alloc_old (w : World) (o : Obj) (r : Nat) (h : r < w.heap.size) : (w.alloc o).heap[r]? = w.heap[r]? := by
  show (w.heap.push o)[r]? = _
  rw [Array.getElem?_push, if_neg (by omega)]
theorem alloc_new (w : World) (o : Obj) : (w.alloc o).heap[w.heap.size]? = some o := by
  show (w.heap.push o)[w.heap.size]? = _
  rw [Array.getElem?_push, if_pos rfl]
theorem NRes.row {ρ : Pl} {w : World} {t n : Nat} {r : Row} {cs extra : List Value} {f : Bid → AV} {x : Value} {fr : Nat × Nat} (hr : RowOf ρ r cs) (hn : cs.length = n) (hfr : fr = (0, 0) ∨ n + extra.length ≤ fr.1)
    (hx : ∀ (ρ' : Pl) (b : Bid), ρ' b = some ⟨w.heap.size, n + extra.length, w.heap.size⟩ → Rv ρ' (f b) x) : NRes ρ w (.cells t n r) f x (w.alloc (.cells (cs ++ extra).toArray t fr)) := by
  refine ⟨rfl, rfl, rfl, by show _ ≤ (w.heap.push _).size; simp, alloc_old w _, ⟨w.heap.size, n + extra.length, w.heap.size⟩, Nat.le_refl _, Nat.le_refl _, fun ρ' b hs hb => ⟨⟨rfl, (cs ++ extra).toArray, fr, alloc_new w _, by simp; omega, by simp; omega, hfr.imp id fun h => by simp; omega, hr.1, by have := hr.2.1; omega, fun i hi => ?_⟩, hx ρ' b hb⟩⟩
  have h1 := List.getElem?_eq_getElem (l := cs) (i := i) (by omega)
  refine ⟨cs[i]'(by omega), ?_, Rw.mono hs _ _ _ (hr.2.2 i _ h1)⟩
  simp only [Loc.s_mk, Nat.zero_add]
  rw [List.getElem?_toArray, List.getElem?_append_left (by omega)]
  exact h1
theorem NRes.pk {ρ : Pl} {w : World} {κ : PK} {t n m : Nat} {cs extra : List Value} {f : Bid → AV} {x : Value} {fr : Nat × Nat} (hm : m < 2 ^ (pkw κ * n)) (hn : cs.length = n) (hc : ∀ i, i < n → cs[i]? = some (pkV κ (bitsAt (pkw κ) n m i 1))) (hfr : fr = (0, 0) ∨ n + extra.length ≤ fr.1)
    (hx : ∀ (ρ' : Pl) (b : Bid), ρ' b = some ⟨w.heap.size, n + extra.length, w.heap.size⟩ → Rv ρ' (f b) x) : NRes ρ w (.pk κ t n m) f x (w.alloc (.cells (cs ++ extra).toArray t fr)) := by
  refine ⟨rfl, rfl, rfl, by show _ ≤ (w.heap.push _).size; simp, alloc_old w _, ⟨w.heap.size, n + extra.length, w.heap.size⟩, Nat.le_refl _, Nat.le_refl _, fun ρ' b hs hb => ⟨⟨rfl, (cs ++ extra).toArray, fr, alloc_new w _, by simp; omega, by simp; omega, hfr.imp id fun h => by simp; omega, hm, fun i hi => ?_⟩, hx ρ' b hb⟩⟩
  simp only [Loc.s_mk, Nat.zero_add]
  rw [List.getElem?_toArray, List.getElem?_append_left (by omega)]
  exact hc i hi
section
variable {P : Program} {ρ : Pl} {x y : G} {T : Tm} {σ : St} {v : AV} {X Y : Value} {t : TypeId} {w : World} {k : Blk} {f : Bid → AV}
theorem newVar_run (v : Value) : (newVar t v).run P w = .ok ⟨w.heap.size, 0, none⟩ (w.alloc (.cells v.cells t)) := rfl
theorem ptr_new {n q : Nat} : ∀ (ρ' : Pl) (b : Bid), ρ' b = some ⟨w.heap.size, n, q⟩ → Rv ρ' (ptrA b) (.pointer (some ⟨w.heap.size, 0, none⟩)) := fun ρ' b hb => ⟨_, hb, rfl⟩
theorem al_ok {l : List Value} (hz : zrowA P t = some l) : ∃ u w', (Instr.alloc t true (.tuple #[])).run P w = .ok u w' ∧ NRes ρ w (.cells t l.length (mkRow (l.map cA1))) ptrA u w' := by
  obtain ⟨z, i, _, _, rfl, h1, h2, hr⟩ := zrow_run hz
  refine ⟨.pointer (some ⟨w.heap.size, 0, none⟩), w.alloc (.cells z.cells t), by simp [Instr.alloc, hr, newVar_run], ?_⟩
  have := NRes.row (w := w) (t := t) (f := ptrA) (x := .pointer (some ⟨w.heap.size, 0, none⟩)) (extra := []) (fr := (0, 0)) (mkRow_of (ρ := ρ) h1 h2) rfl (.inl rfl) ptr_new
  simpa using this
theorem bx1_ok (hx : Rv ρ (x T) X) (h : bx1 t x T = .ok k f) : ∃ u w', (Instr.box t X).run P w = .ok u w' ∧ NRes ρ w k f u w' := by
  obtain ⟨hc, h⟩ := ifN_ok h
  cases h
  have h1 := oneC_ok hx hc
  refine ⟨.pointer (some ⟨w.heap.size, 0, none⟩), w.alloc (.cells X.cells t), by simp [Instr.box, newVar_run], ?_⟩
  have hr : RowOf ρ (.l (x T) undefA undefA undefA undefA undefA undefA undefA) [X] := ⟨⟨0, rfl⟩, by show 1 ≤ 8; omega, fun i y hy => by
    cases i with
    | zero => simp at hy; subst hy; exact (Rw_get _ _ _).2 ⟨x T, rfl, hx, h1⟩
    | succ i => simp at hy⟩
  have := NRes.row (w := w) (t := t) (f := ptrA) (x := .pointer (some ⟨w.heap.size, 0, none⟩)) (extra := []) (fr := (0, 0)) hr rfl (.inl rfl) ptr_new
  rw [one_cells h1]
  simpa using this
theorem bxN_ok {n : Nat} (hx : Rv ρ (x T) X) (h : bxN t n x T = .ok k f) : ∃ u w', (Instr.box t X).run P w = .ok u w' ∧ NRes ρ w k f u w' := by
  unfold bxN at h
  obtain ⟨m, r, e1, h⟩ := onAgg_some h NB.ne
  obtain ⟨hb, h⟩ := ifN_ok (show ifN (Nat.beq m n) _ = _ from h)
  have hb : m = n := Nat.eq_of_beq_eq_true hb
  rw [e1] at hx
  rw [hb] at hx
  obtain ⟨cs, rfl, h1, h2, h3, h4⟩ := hx
  cases h
  refine ⟨.pointer (some ⟨w.heap.size, 0, none⟩), w.alloc (.cells cs.toArray t), by simp [Instr.box, newVar_run, Value.cells], ?_⟩
  have := NRes.row (w := w) (t := t) (f := ptrA) (x := .pointer (some ⟨w.heap.size, 0, none⟩)) (extra := []) (fr := (0, 0)) (cs := cs) ⟨h2, by omega, h4⟩ (by omega) (.inl rfl) ptr_new
  simpa using this
def placesA (P : Program) : List Field → Option (List (Nat × Nat))
  | [] => some []
  | f :: r => match sizeA P f.type, placesA P r with
    | some n, some l => some ((f.offset, n) :: l)
    | _, _ => none
theorem places_run : ∀ (fs : List Field) (l : List (Nat × Nat)), placesA P fs = some l → ∀ w, (fs.mapM (fun f => do pure (f.offset, ← sizeOf f.type) : Field → Sem (Nat × Nat))).run P w = .ok l w
  | [], l, h, w => by injection h with h; subst h; rfl
  | f :: r, l, h, w => by
    unfold placesA at h
    cases h1 : sizeA P f.type with
    | none => rw [h1] at h; cases h
    | some n =>
      cases h2 : placesA P r with
      | none => rw [h1, h2] at h; cases h
      | some l' =>
        rw [h1, h2] at h; injection h with h; subst h
        rw [List.mapM_cons]
        have := places_run r l' h2 w
        simp only [Sem.run_bind, sizeOf_run h1, Result.andThen_ok, Sem.run_pure, this]
theorem bld_s_ok {fs : Array Field} {pl : List (Nat × Nat)} {zl : List Value} {l : PL} {vs : List (Nat × Value)} (hz : zrowA P t = some zl) (hu : P.underlying t = some (.struct fs)) (hp : placesA P fs.toList = some pl)
    (hb : ∀ (i o n : Nat), pl[i]? = some (o, n) → o + n ≤ zl.length) (hps : Ps ρ T (fun i => pl[i]?) l vs) (h : bld zl.length (mkRow (zl.map cA1)) l T σ = .ok v) : ∃ u, (Instr.build t vs.toArray).run P w = .ok u w ∧ Rv ρ v u := by
  obtain ⟨z, i, _, _, rfl, h1, h2, hr⟩ := zrow_run hz
  obtain ⟨q, hq, rfl⟩ := aggO_ok h
  obtain ⟨ds, d1, d2, d3⟩ := fill_ok (cs := z.cells) hps (fun i o n e => by have := hb i o n e; simpa using this) hq (mkRow_of h1 h2)
  refine ⟨.agg ds, ?_, ds.toList, by simp, by simp [d3], d2.1, by have := d2.2.1; simp [d3] at this ⊢; omega, d2.2.2⟩
  have hm := places_run fs.toList pl hp w
  have g1' : Instr.fill (fun i => pl.toArray[i]?) z.cells vs = some ds := by simpa using d1
  have hm' : (fs.mapM (fun f => do pure (f.offset, ← sizeOf f.type) : Field → Sem (Nat × Nat))).run P w = .ok pl.toArray w := by
    rw [Array.mapM_eq_mapM_toList, map_eq_pure_bind]
    simp only [Sem.run_bind, hm, Result.andThen_ok, Sem.run_pure]
  simp only [Instr.build, Sem.run_bind, hr, run_underlying hu, Result.andThen_ok, hm', g1', Sem.run_pure]
theorem bld_a_ok {e N n : Nat} {zl : List Value} {l : PL} {vs : List (Nat × Value)} (hz : zrowA P t = some zl) (hu : P.underlying t = some (.array N e)) (hn : sizeA P e = some n)
    (hb : ∀ (i : Nat) (X : Value), (i, X) ∈ vs → i * n + n ≤ zl.length) (hps : Ps ρ T (fun i => if i * n + n ≤ zl.length then some (i * n, n) else none) l vs) (h : bld zl.length (mkRow (zl.map cA1)) l T σ = .ok v) : ∃ u, (Instr.build t vs.toArray).run P w = .ok u w ∧ Rv ρ v u := by
  obtain ⟨z, i, _, _, rfl, h1, h2, hr⟩ := zrow_run hz
  obtain ⟨q, hq, rfl⟩ := aggO_ok h
  obtain ⟨ds, d1, d2, d3⟩ := fill_ok (cs := z.cells) hps (fun i o n' e => by
    split at e
    · next hc => injection e with e; injection e with e1 e2; subst e1 e2; simpa using hc
    · cases e) hq (mkRow_of h1 h2)
  refine ⟨.agg ds, ?_, ds.toList, by simp, by simp [d3], d2.1, by have := d2.2.1; simp [d3] at this ⊢; omega, d2.2.2⟩
  have key : ∀ (vs : List (Nat × Value)) (cs : Array Value), (∀ i X, (i, X) ∈ vs → i * n + n ≤ z.cells.toList.length) → Instr.fill (fun i => some (i * n, n)) cs vs = Instr.fill (fun i => if i * n + n ≤ z.cells.toList.length then some (i * n, n) else none) cs vs := by
    intro vs
    induction vs with
    | nil => intro cs _; rfl
    | cons p vs ih =>
      intro cs hm
      obtain ⟨i, X⟩ := p
      unfold Instr.fill
      rw [if_pos (hm i X List.mem_cons_self)]
      simp only
      split
      · rfl
      · exact ih _ fun i X h => hm i X (List.mem_cons_of_mem _ h)
  have g1' : Instr.fill (fun i => some (i * n, n)) z.cells vs = some ds := (key vs z.cells hb).trans d1
  simp [Instr.build, hr, run_underlying hu, sizeOf_run hn, g1']
end
end Go.Proofs.YtaogloegiffioaaGreatDoor
namespace Go.Proofs.YtaogloegiffioaaGreatDoor
theorem rep_rows (z : List Value) (n : Nat) (hz : z.length = n) (h0 : 0 < n) : ∀ (m i : Nat), i < m * n → (List.replicate m z).flatten[i]? = z[i % n]?
  | 0, i, h => by omega
  | m + 1, i, h => by
    rw [List.replicate_succ, List.flatten_cons]
    by_cases hi : i < n
    · rw [List.getElem?_append_left (by omega), Nat.mod_eq_of_lt hi]
    · have hm : (m + 1) * n = m * n + n := Nat.succ_mul m n
      rw [List.getElem?_append_right (by omega), hz, rep_rows z n hz h0 m (i - n) (by omega), Nat.mod_eq_sub_mod (show i ≥ n by omega)]
theorem rep_len (z : List Value) (m : Nat) : (List.replicate m z).flatten.length = m * z.length := by
  simp [List.length_flatten]
theorem zero_cells (zs : Array Value) (n m : Nat) (hz : zs.size = n) (h0 : 0 < n) : ((Array.range (m * n)).map (fun i => zs[i % zs.size]!)).toList = (List.replicate m zs.toList).flatten := by
  refine List.ext_getElem? fun i => ?_
  by_cases hi : i < m * n
  · rw [rep_rows zs.toList n (by simpa using hz) h0 m i hi]
    have hm : i % n < zs.size := by rw [hz]; exact Nat.mod_lt _ h0
    simp [hi, hz]
    rw [Array.getElem?_eq_getElem hm]
    congr 1
    exact getElem!_pos zs (i % n) hm
  · rw [List.getElem?_eq_none (by simp; omega), List.getElem?_eq_none (by rw [rep_len, Array.length_toList, hz]; omega)]
theorem askRoom_run {P : Program} {n : Nat} {w : World} : (askRoom n).run P w = .ok () w := by unfold askRoom; split <;> rfl
section
variable {P : Program} {ρ : Pl} {x y : G} {T : Tm} {σ : St} {v : AV} {X Y : Value} {t : TypeId} {w : World} {k : Blk} {f : Bid → AV}
theorem sl_new {l c wd n q : Nat} (h1 : l ≤ c) (h2 : c ≤ maxLen) (h3 : c * wd ≤ n) : ∀ (ρ' : Pl) (b : Bid), ρ' b = some ⟨w.heap.size, n, q⟩ → Rv ρ' (slB l c wd b) (.slice (some ⟨w.heap.size, 0, none⟩) l c) :=
  fun ρ' b hb => ⟨_, c, 0, hb, rfl, .inl rfl, h1, Nat.le_refl _, fun _ => rfl, h2, by show 0 + 0 + c * wd ≤ n; omega⟩
theorem slW_new {l c wd n q : Nat} (h1 : l ≤ c) (h2 : c ≤ maxLen) (h3 : c * wd ≤ n) : ∀ (ρ' : Pl) (b : Bid), ρ' b = some ⟨w.heap.size, n, q⟩ → Rv ρ' (slW l wd b) (.slice (some ⟨w.heap.size, 0, none⟩) l c) :=
  fun ρ' b hb => ⟨_, c, 0, hb, rfl, .inl rfl, Nat.le_refl _, h1, fun h => (by cases h), h2, by show 0 + 0 + c * wd ≤ n; omega⟩
theorem bsl_ok {e len n : Nat} {zl : List Value} {l : PL} {vs : List (Nat × Value)} (hu : P.underlying t = some (.slice e)) (hz : zrowA P e = some zl) (hn : sizeA P e = some n) (hzl : zl.length = n) (h0 : 0 < n) (hlen : len * n ≤ 4096)
    (hb : ∀ (i : Nat) (X : Value), (i, X) ∈ vs → i * n + n ≤ len * n) (hps : Ps ρ T (fun i => if i * n + n ≤ len * n then some (i * n, n) else none) l vs) (h : bsl e len n (mkRow ((List.replicate len zl).flatten.map cA1)) l T = .ok k f) :
    ∃ u w', (Instr.buildSlice t len vs.toArray).run P w = .ok u w' ∧ NRes ρ w k f u w' := by
  obtain ⟨z, i, _, _, rfl, h1, h2, hr⟩ := zrow_run hz
  obtain ⟨r, hr', h⟩ := orNB_ok h
  cases h
  have hzs : z.cells.size = n := by simpa using hzl
  have hcs := zero_cells z.cells n len hzs h0
  have hl : (List.replicate len z.cells.toList).flatten.length = len * n := by rw [rep_len]; simp [hzs]
  have hall : (List.replicate len z.cells.toList).flatten.all oneV = true := by
    rw [List.all_eq_true]
    intro u hu'
    obtain ⟨l', h3, h4⟩ := List.mem_flatten.1 hu'
    rw [(List.mem_replicate.1 h3).2] at h4
    exact List.all_eq_true.1 h2 u h4
  have hro := mkRow_of (ρ := ρ) (by omega) hall
  rw [← hcs] at hro hr'
  obtain ⟨ds, d1, d2, d3⟩ := fill_ok (cs := (Array.range (len * n)).map (fun i => z.cells[i % z.cells.size]!)) hps (fun i o n' e => by
    split at e
    · next hc => injection e with e; injection e with e1 e2; subst e1 e2; simpa using hc
    · cases e) hr' hro
  have key : ∀ (vs : List (Nat × Value)) (cs : Array Value), (∀ i X, (i, X) ∈ vs → i * n + n ≤ len * n) → Instr.fill (fun i => some (i * n, n)) cs vs = Instr.fill (fun i => if i * n + n ≤ len * n then some (i * n, n) else none) cs vs := by
    intro vs
    induction vs with
    | nil => intro cs _; rfl
    | cons p vs ih =>
      intro cs hm
      obtain ⟨i, X⟩ := p
      unfold Instr.fill
      rw [if_pos (hm i X List.mem_cons_self)]
      simp only
      split
      · rfl
      · exact ih _ fun i X h => hm i X (List.mem_cons_of_mem _ h)
  have g1 := (key vs ((Array.range (len * n)).map (fun i => z.cells[i % z.cells.size]!)) hb).trans d1
  have hds : ds.toList.length = len * n := by simp [d3]
  refine ⟨.slice (some ⟨w.heap.size, 0, none⟩) len len, w.alloc (.cells ds e), ?_, ?_⟩
  · have e1 : ¬ (len * n > 2 ^ 24) := by have : 2 ^ 24 = 16777216 := rfl; omega
    by_cases hl0 : len * n = 0
    · have hlen0 : len = 0 := (Nat.mul_eq_zero.1 hl0).resolve_right (by omega)
      subst hlen0
      have e0 : Array.range 0 = #[] := rfl
      have g1' : Instr.fill (fun i => some (i * n, n)) #[] vs = some ds := by simpa [e0] using g1
      simp [Instr.buildSlice, run_underlying hu, sizeOf_run hn, e0, g1', newRow]
    · simp [Instr.buildSlice, run_underlying hu, sizeOf_run hn, hr, e1, hl0, g1, newRow]
  · have hle : len ≤ len * n := Nat.le_mul_of_pos_right len h0
    have := NRes.row (ρ := ρ) (w := w) (t := e) (n := len * n) (f := slB len len n) (x := .slice (some ⟨w.heap.size, 0, none⟩) len len) (extra := []) (fr := (0, 0)) d2 hds (.inl rfl) (sl_new (Nat.le_refl _) (by rw [maxLen_eq]; omega) (by simp))
    simpa using this
theorem pkNum_ok {κ : PK} {a u : AV} (hx : Rv ρ a X) (h : pkNum κ a = .ok u) : ∃ d, u = .i64 d ∧ d < 2 ^ pkw κ ∧ X = pkV κ d := by
  cases κ
  · obtain ⟨b, e, h⟩ := onB_some (x := a) (k := fun b => OA.ok (.i64 (Bool.rec (motive := fun _ => Nat) 0 1 b))) (z := OA.no) (r := OA.ok u) h OA.ne
    rw [e] at hx
    cases h
    cases b
    · exact ⟨0, rfl, by decide, hx⟩
    · exact ⟨1, rfl, by decide, hx⟩
  · obtain ⟨n, e, h⟩ := onU8_some (x := a) (k := fun n => OA.ok (.i64 n)) (z := OA.no) (r := OA.ok u) h OA.ne
    rw [e] at hx
    cases h
    exact ⟨n, rfl, hx.2, hx.1⟩
  · rcases onI64_or (x := a) (k := fun n => OA.ok (.i64 n)) (z := negN a.val) (r := OA.ok u) h with ⟨n, e, h⟩ | h
    · rw [e] at hx
      cases h
      refine ⟨n, rfl, by have := hx.2; show n < 18446744073709551616; omega, hx.1.trans ?_⟩
      show _ = Value.int .i64 (IntKind.wrap .i64 (.ofNat n))
      rw [wrap_in (in_i64 hx.2)]
    · unfold negN at h
      split at h
      · next b e =>
        have := val_ok hx e
        split at h
        · next hw =>
          cases h
          refine ⟨_, rfl, ?_, ?_⟩
          · show (b % 18446744073709551616).toNat < 18446744073709551616; omega
          · rw [this]; show _ = Value.int .i64 (IntKind.wrap .i64 (.ofNat (b % 18446744073709551616).toNat)); rw [hw]
        · cases h
      · cases h
  · obtain ⟨n, e, h⟩ := onU64_some (x := a) (k := fun n => OA.ok (.i64 n)) (z := OA.no) (r := OA.ok u) h OA.ne
    rw [e] at hx
    cases h
    exact ⟨n, rfl, hx.2, hx.1⟩
  · obtain ⟨n, e, h⟩ := onI32_some (x := a) (k := fun n => OA.ok (.i64 n)) (z := OA.no) (r := OA.ok u) h OA.ne
    rw [e] at hx
    cases h
    refine ⟨n, rfl, by have := hx.2; show n < 4294967296; omega, hx.1.trans ?_⟩
    show _ = Value.int .i32 (IntKind.wrap .i32 (.ofNat n))
    rw [wrap_in (in_i32 hx.2)]
  · obtain ⟨n, e, h⟩ := onU32_some (x := a) (k := fun n => OA.ok (.i64 n)) (z := OA.no) (r := OA.ok u) h OA.ne
    rw [e] at hx
    cases h
    exact ⟨n, rfl, hx.2, hx.1⟩
theorem pkV_one (κ : PK) (d : Nat) : (pkV κ d).cells = #[pkV κ d] := by cases κ <;> rfl
inductive Pk (ρ : Pl) (T : Tm) : PL → List Value → Prop
  | nil : Pk ρ T .nil []
  | one {o : Nat} {x : G} {X : Value} {r : PL} {l : List Value} (h : Rv ρ (x T) X) (t : Pk ρ T r l) : Pk ρ T (.one o x r) (X :: l)
theorem pkFill_ok {κ : PK} {l : PL} {Xs : List Value} (hp : Pk ρ T l Xs) : ∀ (n acc : Nat) (u : AV), acc < 2 ^ (pkw κ * n) → pkFill κ (pkw κ) l T acc = .ok u →
    ∃ m, u = .i64 m ∧ m < 2 ^ (pkw κ * (n + Xs.length)) ∧ (∀ j, j < n → bitsAt (pkw κ) (n + Xs.length) m j 1 = bitsAt (pkw κ) n acc j 1) ∧ ∀ j X, Xs[j]? = some X → X = pkV κ (bitsAt (pkw κ) (n + Xs.length) m (n + j) 1) := by
  induction hp with
  | nil => intro n acc u ha h; cases h; exact ⟨acc, rfl, ha, fun _ _ => rfl, fun j X h => by simp at h⟩
  | @one o x X r l hX _ ih =>
    intro n acc u ha h
    change OA.bind (pkNum κ (x T)) (fun v => onI64 v (fun n => pkFill κ (pkw κ) r T (Nat.add (Nat.shiftLeft acc (pkw κ)) n)) .no) = .ok u at h
    obtain ⟨a, h1, h⟩ := bind_ok h
    obtain ⟨d, rfl, hd, rfl⟩ := pkNum_ok hX h1
    have h : pkFill κ (pkw κ) r T (Nat.add (Nat.shiftLeft acc (Nat.mul (pkw κ) 1)) d) = .ok u := by rw [show Nat.mul (pkw κ) 1 = pkw κ from Nat.mul_one _]; exact h
    have hd1 : d < 2 ^ (pkw κ * 1) := by rw [Nat.mul_one]; exact hd
    obtain ⟨m, rfl, m1, m2, m3⟩ := ih (n + 1) _ u (app_lt ha hd1) h
    have e : n + 1 + l.length = n + (pkV κ d :: l).length := by simp; omega
    rw [e] at m1 m2 m3
    refine ⟨m, rfl, m1, fun j hj => ?_, fun j Y hY => ?_⟩
    · rw [m2 j (by omega), bits_app_old hd1 (by omega)]
    · cases j with
      | zero =>
        simp at hY; subst hY
        rw [Nat.add_zero, m2 n (by omega)]
        have this : bitsAt (pkw κ) (n + 1) (Nat.add (Nat.shiftLeft acc (Nat.mul (pkw κ) 1)) d) n 1 = bitsAt (pkw κ) 1 d 0 1 := bits_app_new (w := pkw κ) (n := n) (k := 1) (m := acc) (y := d) (i := 0) (l := 1) hd1 (by omega)
        rw [this, bits_all hd1]
      | succ j =>
        simp at hY
        rw [m3 j Y hY]; congr 2; omega
theorem fill_seq {Xs : List Value} (h1 : ∀ X ∈ Xs, X.cells = #[X]) : ∀ (i : Nat) (cs : Array Value), i + Xs.length = cs.size →
    ∃ ds : Array Value, Instr.fill (fun i => some (i * 1, 1)) cs (Xs.zipIdx i |>.map fun p => (p.2, p.1)) = some ds ∧ ds.toList = cs.toList.take i ++ Xs := by
  induction Xs with
  | nil => intro i cs h; exact ⟨cs, rfl, by simp at h; rw [h, List.append_nil, List.take_of_length_le (by simp)]⟩
  | cons X Xs ih =>
    intro i cs h
    have hX := h1 X List.mem_cons_self
    have hlen : cs.toList.length = cs.size := by simp
    have hsz : (X.cells.zipIdx.foldl (fun cs (p : Value × Nat) => cs.setIfInBounds (i * 1 + p.2) p.1) cs).toList = cs.toList.take (i * 1) ++ ([X] ++ cs.toList.drop (i * 1 + [X].length)) := by
      rw [hX, ← Array.foldl_toList, Array.toList_zipIdx]
      exact foldl_set [X] (i * 1) 0 cs (by simp at h ⊢; omega)
    obtain ⟨ds, d1, d2⟩ := ih (fun Y hY => h1 Y (List.mem_cons_of_mem _ hY)) (i + 1) (X.cells.zipIdx.foldl (fun cs (p : Value × Nat) => cs.setIfInBounds (i * 1 + p.2) p.1) cs) (by
      rw [← Array.length_toList, hsz]; simp at h ⊢; omega)
    refine ⟨ds, ?_, ?_⟩
    · rw [List.zipIdx_cons, List.map_cons]
      unfold Instr.fill
      simp only
      rw [if_neg (by rw [hX]; simp at h ⊢; omega)]
      exact d1
    · rw [d2, hsz]
      rw [← List.append_assoc, List.take_left' (by simp at h ⊢; omega), Nat.mul_one]
      simp
theorem bslk_ok {e len : Nat} {κ : PK} {z : Value} {l : PL} {Xs : List Value} (hu : P.underlying t = some (.slice e)) (hn : sizeA P e = some 1) (hzr : ∀ w, (zeroValue e).run P w = .ok z w) (hlen : Xs.length = len) (hl : len ≤ 4096)
    (hp : Pk ρ T l Xs) (h : bslk κ e len l T = .ok k f) : ∃ u w', (Instr.buildSlice t len ((Xs.zipIdx 0).map fun p => (p.2, p.1)).toArray).run P w = .ok u w' ∧ NRes ρ w k f u w' := by
  unfold bslk NBof at h
  cases hf : pkFill κ (pkw κ) l T 0 with
  | no => rw [hf] at h; cases h
  | ok u =>
    rw [hf] at h
    obtain ⟨m, rfl, m1, _, m3⟩ := pkFill_ok hp 0 0 u (Nat.two_pow_pos _) hf
    cases h
    rw [Nat.zero_add, hlen] at m1 m3
    have hone : ∀ X ∈ Xs, X.cells = #[X] := fun X hX => by
      obtain ⟨j, hj⟩ := List.getElem?_of_mem hX
      rw [m3 j X hj]; exact pkV_one _ _
    refine ⟨.slice (some ⟨w.heap.size, 0, none⟩) len len, w.alloc (.cells Xs.toArray e), ?_, ?_⟩
    · have e1 : ¬ (len * 1 > 2 ^ 24) := by have : 2 ^ 24 = 16777216 := rfl; omega
      obtain ⟨ds, d1, d2⟩ := fill_seq hone 0 ((Array.range (len * 1)).map (fun i => z.cells[i % z.cells.size]!)) (by simp [hlen])
      have hds : ds = Xs.toArray := Array.ext' (by rw [d2]; simp)
      subst hds
      by_cases hl0 : len * 1 = 0
      · have hlen0 : len = 0 := by omega
        have hX0 : Xs = [] := List.eq_nil_of_length_eq_zero (by omega)
        subst hX0 hlen0
        have e0 : Array.range 0 = #[] := rfl
        simp [Instr.buildSlice, run_underlying hu, sizeOf_run hn, e0, newRow, Instr.fill]
      · simp only [Nat.mul_one] at d1 e1 hl0
        simp [Instr.buildSlice, run_underlying hu, sizeOf_run hn, hzr, e1, hl0, d1, newRow]
    · have := NRes.pk (ρ := ρ) (w := w) (κ := κ) (t := e) (n := len) (m := m) (cs := Xs) (f := slB len len 1) (x := .slice (some ⟨w.heap.size, 0, none⟩) len len) (extra := []) (fr := (0, 0)) m1 hlen (fun i hi => by
        have := List.getElem?_eq_getElem (l := Xs) (i := i) (by omega)
        rw [this]
        have := m3 i _ this
        rw [Nat.zero_add] at this
        rw [← this]) (.inl rfl) (sl_new (Nat.le_refl _) (by rw [maxLen_eq]; omega) (by simp))
      simpa using this
end
end Go.Proofs.YtaogloegiffioaaGreatDoor
