/- An append of one domain to a full list of domains. -/
import Derived.Test.YteiohgiecpibhaaGreatWq
import Derived.ArgAppend
set_option linter.unusedVariables false
set_option linter.unusedSimpArgs false
set_option maxRecDepth 100000
set_option maxHeartbeats 4000000
namespace Go.Proofs.YteiohgiecpibhaaGreat
open Go.RowKit Fdm

theorem DsK.nil_or {w : World} {D : List Dm} {a : Option Addr} {n : Nat} (h : DsK w D a) (hn : D.length = n) : ∃ vs : List Value, vs.length = n ∧ (∀ i, i < n → ∃ u, vs[i]? = some u ∧ DmV w (dm D i) u) ∧ (n ≠ 0 → ∃ g o, a = some ⟨g, o, none⟩ ∧ ∀ j u, vs[j]? = some u → w.cell? ⟨g, o + j, none⟩ = some u) := by
  subst hn
  by_cases h0 : D = []
  · subst h0
    exact ⟨[], rfl, fun i hi => absurd hi (Nat.not_lt_zero _), fun q => absurd rfl q⟩
  · obtain ⟨g, o, e, k⟩ := h.a h0
    obtain ⟨vs, hl, hp⟩ := list_of k
    refine ⟨vs, hl, fun i hi => ?_, fun _ => ⟨g, o, e, fun j u hu => ?_⟩⟩
    · obtain ⟨u, h1, h2, h3⟩ := hp i hi
      exact ⟨u, h1, h3⟩
    · obtain ⟨x, h1, h2, _⟩ := hp j (by rw [← hl]; exact (List.getElem?_eq_some_iff.1 hu).1)
      rw [h1] at hu
      rw [← Option.some.inj hu]; exact h2
theorem dm_old {D : List Dm} {d : Dm} {i : Nat} (h : i < D.length) : dm (D ++ [d]) i = dm D i := by
  show (D ++ [d]).getD i [] = D.getD i []
  rw [List.getD_eq_getElem?_getD, List.getD_eq_getElem?_getD, List.getElem?_append_left h]
theorem dm_new {D : List Dm} {d : Dm} : dm (D ++ [d]) D.length = d := by
  show (D ++ [d]).getD D.length [] = d
  rw [List.getD_eq_getElem?_getD, List.getElem?_append_right (Nat.le_refl _), Nat.sub_self]; rfl
theorem wpList_pushDs {ops : Array Oper} {rest : List Oper} {o : Oper} {a : Act} {Q : Exit → Act → World → Prop} {w : World} (hgd : o.guard = none) (s x : Operand)
    (ho : o.op = .call { callee := .builtin .append, args := #[s, x], argTypes := #[28, 28] })
    (w1 : World) (a0 : Option Addr) (n : Nat) (D : List Dm) (d : Dm) (u : Value) (hw : w = w1.alloc (.cells #[u] 23)) (hs : a.eval s = .slice a0 n n) (hx : a.eval x = .slice (some ⟨w1.heap.size, 0, none⟩) 1 1)
    (hn : D.length = n) (hD : DsK w1 D a0) (hu : DmV w1 d u) (hl : n ≤ 1000) (hnone : a0 = none → n = 0)
    (h : ∀ g c w', n + 1 ≤ c → c ≤ 9223372036854775807 → DsK w' (D ++ [d]) (some ⟨g, 0, none⟩) → Below w1.heap.size w1 w' → wpList Tryz.prog ops Q rest (a.put o.dst (.slice (some ⟨g, 0, none⟩) (n + 1) c)) w') : wpList Tryz.prog ops Q (o :: rest) a w := by
  subst hw
  obtain ⟨i0, hi0, hz0, hz1, hz2⟩ := info_parts info23
  have bn := below_new w1 (.cells #[u] 23)
  obtain ⟨vs, v1, v2, v3⟩ := (hD.below bn).nil_or hn
  refine wpList_append_grows _ hgd s x 28 ho 23 i0 _ 1 24 Tryz.underlying28 hi0 hz0 hz1 hz2 rfl (by omega) a0 n n vs hs (fun e => ⟨hnone e, hnone e⟩) (by omega) ?_ ⟨w1.heap.size, 0, none⟩ 1 1 [u] hx rfl ?_ ?_ (by omega) (by unfold maxLen; omega) (by omega) ?_
  · intro b hb j z hz
    have hj : j < vs.length := (List.getElem?_eq_some_iff.1 hz).1
    obtain ⟨g, o', e, k⟩ := v3 (by omega)
    rw [hb] at e
    rw [Option.some.inj e, add_at]
    exact k j z hz
  · intro j z hz
    have hh := heap_alloc_new w1 (.cells #[u] 23)
    rw [add_at, Nat.zero_add, cell_of_row _ _ j _ _ _ hh]
    simpa using hz
  · intro z hz
    simp at hz
    subst hz; exact hu.one
  · intro v' w' h1 h2
    have gb := over bn (below_grown h2)
    have ub := hu.below gb
    rcases h1.2 with ⟨_, h0⟩ | ⟨g, cap, cur, rfl, hb, hg, hnc, hcm, hcs, htake⟩
    · omega
    · refine h g cap w' hnc (by unfold maxLen at hcm; omega) (fun _ => ⟨g, 0, rfl, ⟨_, hg⟩, fun i hi => ?_⟩) gb
      have cs : ∀ j, j < (vs ++ [u]).length → w'.cell? ⟨g, 0 + j, none⟩ = (vs ++ [u])[j]? := fun j hj => by
        have := h1.cellAt (g := g) (j := j) (by simp at hj; omega)
        simpa using this
      rw [List.length_append, List.length_singleton] at hi
      by_cases e : i < D.length
      · obtain ⟨z, p, q⟩ := v2 i (by omega)
        refine ⟨z, (cs i (by rw [List.length_append, List.length_singleton]; omega)).trans (by rw [List.getElem?_append_left (by omega)]; exact p), ?_⟩
        rw [dm_old e]; exact q.below (below_grown h2)
      · obtain rfl : i = D.length := by omega
        refine ⟨u, (cs _ (by rw [List.length_append, List.length_singleton]; omega)).trans (by rw [List.getElem?_append_right (by omega), v1, hn, Nat.sub_self]; rfl), ?_⟩
        rw [dm_new]; exact ub
end Go.Proofs.YteiohgiecpibhaaGreat
