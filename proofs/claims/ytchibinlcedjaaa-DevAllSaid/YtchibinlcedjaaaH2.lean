import Derived.Test.YtchibinlcedjaaaH1
import Derived.Deep.RegionLawGrows
namespace Go.Proofs.Ytchibinlcedjaaa
open Go.RowKit
/-- `append(s, x...)`, `s` a row of one's own: the row is the same block, or a new one. -/
theorem wp_app_split {P : Program} {w : World} {o : Oper} {a : Act} {K : Act → World → Prop} {Q : Exit → Act → World → Prop} (s x : Operand) (t : TypeId)
    (ho : o.op = .call { callee := .builtin .append, args := #[s, x], argTypes := #[t, t] })
    (base : Nat) (e : TypeId) (z : Value) (bytes : Nat) (ht : P.underlying t = some (.slice e)) (hinfo : (P.info? e).map (fun i => (i.zero, i.size, i.bytes)) = some (some z, 1, bytes)) (hzs : z.cells.size = 1)
    (v : Value) (n : Nat) (xs : List Value) (hs : a.eval s = v) (hown : w.ownsRow base e 1 v n xs)
    (b off c : Nat) (u : Value) (hx : a.eval x = .slice (some ⟨b, off, none⟩) 1 c) (hu : w.cell? ⟨b, off, none⟩ = some u) (h1 : u.oneCell' = true)
    (h63 : n + 1 ≤ maxLen) (hbytes : (n + 1) * bytes ≤ 140737488355328) (hbase : base ≤ w.heap.size)
    (h : ∀ v' w', w'.ownsRow base e 1 v' (n + 1) (xs ++ [u]) → w.grownBy w' v.ownBlock → (v'.ownBlock = v.ownBlock ∨ w'.ownsRow w.heap.size e 1 v' (n + 1) (xs ++ [u])) → K (a.put o.dst v') w') : o.wp P a w K Q := by
  obtain ⟨i, hi, hz, hsize, hby⟩ := info_parts hinfo
  have hnews : ∀ (j : Nat) (q : Value), [u][j]? = some q → w.cell? (Addr.add ⟨b, off, none⟩ j) = some q := by
    intro j q hj
    rcases j with _ | j
    · simp at hj
      subst hj
      rw [add_at]
      exact hu
    · simp at hj
  have h1' : ∀ q ∈ [u], q.oneCell' = true := by
    intro q hq
    simp only [List.mem_cons, List.not_mem_nil, or_false] at hq
    subst hq
    exact h1
  obtain ⟨v', w', hrun, r1, r2, _⟩ := run_append_own (P := P) w base t o.type e i z 1 bytes ht hi hz hsize hby hzs (by decide) v n xs hown ⟨b, off, none⟩ 1 c [u] rfl hnews h1' h63 hbytes hbase
  have hsplit : v'.ownBlock = v.ownBlock ∨ w'.ownsRow w.heap.size e 1 v' (n + 1) (xs ++ [u]) := by
    obtain ⟨hl, ⟨rfl, rfl⟩ | ⟨g, cap, cur, rfl, hg, hh, hnc, hcm, hcs, htk⟩⟩ := hown
    · obtain rfl : xs = [] := List.eq_nil_of_length_eq_zero (by simpa using hl)
      obtain ⟨v2, w2, hrun2, q1, _, _⟩ := run_append_own (P := P) w w.heap.size t o.type e i z 1 bytes ht hi hz hsize hby hzs (by decide) (.slice none 0 0) 0 [] (World.ownsRow_nil w _ e 1) ⟨b, off, none⟩ 1 c [u] rfl hnews h1' h63 hbytes (Nat.le_refl _)
      rw [hrun] at hrun2
      injection hrun2 with e1 e2
      subst e1 e2
      exact .inr q1
    · by_cases hroom : n + 1 ≤ cap
      · left
        have hr := run_append_room_cells (P := P) w t o.type e i ht hi g 0 n cap ⟨b, off, none⟩ 1 c [u] (by rw [hsize]; rfl) hnews h1' hroom
          (by intro j hj; simp at hj; subst hj; rw [hsize, Nat.mul_one, Nat.zero_add, Nat.add_zero]; simp [World.cell?, hh]; omega)
          (by intro j hj; simp [World.frozen?, hh])
        rw [hrun] at hr
        injection hr with e1 e2
        rw [e1]
        rfl
      · obtain ⟨v2, w2, hrun2, q1, _⟩ := run_append_arg_grows (P := P) w t o.type e i z 1 bytes ht hi hz hsize hby hzs (by decide) ⟨g, 0, none⟩ n cap xs hl
          (by
            intro j q hj
            rw [add_at, Nat.zero_add]
            have hjl : j < xs.length := by
              rcases Nat.lt_or_ge j xs.length with h | h
              · exact h
              · rw [List.getElem?_eq_none h] at hj; cases hj
            rw [← htk, List.getElem?_take, if_pos (by omega)] at hj
            simp [World.cell?, hh]
            simpa using hj)
          ⟨b, off, none⟩ 1 c [u] rfl hnews (by omega) h63 hbytes
        rw [hrun] at hrun2
        injection hrun2 with e1 e2
        subst e1 e2
        exact .inr q1
  unfold Oper.wp
  simp [execOp, ho, resolve, invoke, builtin, hs, hx, hrun, Result.andThen]
  exact h v' w' r1 r2 hsplit
end Go.Proofs.Ytchibinlcedjaaa
