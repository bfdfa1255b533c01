import Derived.Test.YtjokghnlmaaejaaL5
namespace Go.Proofs.Ytjokghnlmaaejaa
open Go.RowKit
/-- `append(s, x...)`, `s` a row of one's own: the row is the same block, or a new one. -/
theorem wpList_appS {P : Program} {w : World} {ops : Array Oper} {rest : List Oper} {o : Oper} {a : Act} {Q : Exit → Act → World → Prop} (s x : Operand) (t : TypeId)
    (hgd : o.guard = none) (ho : o.op = .call { callee := .builtin .append, args := #[s, x], argTypes := #[t, t] })
    (base : Nat) (e : TypeId) (z : Value) (sz bytes : Nat) (ht : P.underlying t = some (.slice e)) (hinfo : (P.info? e).map (fun i => (i.zero, i.size, i.bytes)) = some (some z, sz, bytes)) (hzs : z.cells.size = sz) (hsz : 0 < sz)
    (v : Value) (n : Nat) (xs : List Value) (hs : a.eval s = v) (hown : w.ownsRow base e sz v n xs)
    (b c : Nat) (news : List Value) (hx : a.eval x = .slice (some ⟨b, 0, none⟩) 1 c) (hb : Bl w b e news) (hnl : news.length = sz) (h1 : ∀ u ∈ news, u.oneCell' = true)
    (h63 : n + 1 ≤ maxLen) (hbytes : (n + 1) * bytes ≤ 140737488355328) (hbase : base ≤ w.heap.size)
    (h : ∀ v' w', w'.ownsRow base e sz v' (n + 1) (xs ++ news) → w.grownBy w' v.ownBlock → (∀ g, v'.ownBlock = some g → v.ownBlock = some g ∨ w.heap.size ≤ g) → wpList P ops Q rest (a.put o.dst v') w') : wpList P ops Q (o :: rest) a w := by
  obtain ⟨i, hi, hz, hsize, hby⟩ := info_parts hinfo
  have hnews : ∀ (j : Nat) (q : Value), news[j]? = some q → w.cell? (Addr.add ⟨b, 0, none⟩ j) = some q := by
    intro j q hj
    rw [add_at, Nat.zero_add, hb.cell]
    exact hj
  have hl1 : news.length = 1 * sz := by omega
  obtain ⟨v', w', hrun, r1, r2, _⟩ := run_append_own (P := P) w base t o.type e i z sz bytes ht hi hz hsize hby hzs hsz v n xs hown ⟨b, 0, none⟩ 1 c news hl1 hnews h1 h63 hbytes hbase
  have hsplit : v'.ownBlock = v.ownBlock ∨ w'.ownsRow w.heap.size e sz v' (n + 1) (xs ++ news) := by
    obtain ⟨hl, ⟨rfl, rfl⟩ | ⟨g, cap, cur, rfl, hg, hh, hnc, hcm, hcs, htk⟩⟩ := hown
    · obtain rfl : xs = [] := List.eq_nil_of_length_eq_zero (by simpa using hl)
      obtain ⟨v2, w2, hrun2, q1, _, _⟩ := run_append_own (P := P) w w.heap.size t o.type e i z sz bytes ht hi hz hsize hby hzs hsz (.slice none 0 0) 0 [] (World.ownsRow_nil w _ e sz) ⟨b, 0, none⟩ 1 c news hl1 hnews h1 h63 hbytes (Nat.le_refl _)
      rw [hrun] at hrun2
      injection hrun2 with e1 e2
      subst e1 e2
      exact .inr q1
    · by_cases hroom : n + 1 ≤ cap
      · left
        have hr := run_append_room_cells (P := P) w t o.type e i ht hi g 0 n cap ⟨b, 0, none⟩ 1 c news (by rw [hsize]; exact hl1) hnews h1 hroom
          (by
            intro j hj
            have : n * sz + sz ≤ cap * sz := by rw [← Nat.succ_mul]; exact Nat.mul_le_mul_right _ hroom
            rw [hsize, Nat.zero_add]
            simp [World.cell?, hh]
            omega)
          (by intro j hj; simp [World.frozen?, hh])
        rw [hrun] at hr
        injection hr with e1 e2
        rw [e1]
        rfl
      · obtain ⟨v2, w2, hrun2, q1, _⟩ := run_append_arg_grows (P := P) w t o.type e i z sz bytes ht hi hz hsize hby hzs hsz ⟨g, 0, none⟩ n cap xs hl
          (by
            intro j q hj
            rw [add_at, Nat.zero_add]
            have hjl : j < xs.length := by
              rcases Nat.lt_or_ge j xs.length with h | h
              · exact h
              · rw [List.getElem?_eq_none h] at hj; cases hj
            rw [← htk, List.getElem?_take, if_pos (by omega)] at hj
            simp [World.cell?, hh]
            simpa using hj)
          ⟨b, 0, none⟩ 1 c news hl1 hnews (by omega) h63 hbytes
        rw [hrun] at hrun2
        injection hrun2 with e1 e2
        subst e1 e2
        exact .inr q1
  have hnew : ∀ g, v'.ownBlock = some g → v.ownBlock = some g ∨ w.heap.size ≤ g := by
    intro g hg
    rcases hsplit with h4 | h4
    · exact .inl (h4 ▸ hg)
    · exact .inr (own_ge h4 hg (Nat.le_refl _))
  refine wpList_plain hgd fun _ hK => ?_
  refine Lib.wp_append_run w s x t t ho v (.slice (some ⟨b, 0, none⟩) 1 c) hs hx v' w' hrun (hK _ _ (h v' w' r1 r2 hnew))
end Go.Proofs.Ytjokghnlmaaejaa
