/- The rule that must differ is a rule of the store, given what its call answers. -/
import Derived.Test.YteiohgiecpibhaaGreatXJ
import Derived.Test.YteiohgiecpibhaaGreatXA
set_option linter.unusedVariables false
set_option linter.unusedSimpArgs false
namespace Go.Proofs.YteiohgiecpibhaaGreat
open Go.RowKit Fdm

theorem pick_two {D : List Dm} (hn : D.length = 2) : pickF D exC = D := by
  match D, hn with
  | [a, b], _ => rfl
theorem exG_parts {D : List Dm} (h : exG exC D = true) : D.length = 2 ∧ okD D = true ∧ ¬ (sizeF (dm D 0) < 2 ∧ sizeF (dm D 1) < 2 ∧ leastF (dm D 0) = leastF (dm D 1)) ∧ ∀ d ∈ difF D, d.length ≤ 1000 := by
  unfold exG at h
  simp only [Bool.and_eq_true, decide_eq_true_eq, Bool.not_eq_true', List.all_eq_true] at h
  obtain ⟨⟨⟨⟨_, h1⟩, h2⟩, h3⟩, h4⟩ := h
  refine ⟨h1, h2, fun q => ?_, h4⟩
  obtain ⟨q1, q2, q3⟩ := q
  simp [q1, q2, q3] at h3
theorem dm_len {D : List Dm} {i m : Nat} (h : ∀ d ∈ D, d.length ≤ m) : (dm D i).length ≤ m := by
  show (D.getD i []).length ≤ m
  rw [List.getD_eq_getElem?_getD]
  cases e : D[i]? with
  | none => simp
  | some d => exact h d (List.mem_of_getElem? e)
theorem ruOk_of {D : List Dm} (h : exG exC D = true) (C : ∀ (W : World) (x1 x2 x3 x6 xv : Value), Kc W exC x1 x2 x3 x6 → DsV W D xv → Calls Tryz.prog 151 #[.agg #[.int .i64 exC.kind, x1, x2, x3, .int .i64 exC.rel, .int .i64 exC.bound, x6], xv] W fun e W' => ∃ v, e = .returned v ∧ DsW W' W.heap.size (difF D) v ∧ Below W.heap.size W W') : RuOk exRu exC D := by
  obtain ⟨h1, h2, _, h4⟩ := exG_parts h
  have hp := pick_two h1
  refine ⟨rfl, ?_, fun i => ?_, fun v => dm_len fun d hd => ?_, fun W x1 x2 x3 x6 xv hk hv => ?_⟩
  · rw [hp]
    show (difF D).length = 2
    simp [difF, h1]
  · rw [hp]; exact dm_len h4
  · unfold okD at h2
    have := List.all_eq_true.1 h2 d hd
    simp only [Bool.and_eq_true, decide_eq_true_eq] at this
    exact this.1.2
  · rw [hp] at hv ⊢
    exact C W x1 x2 x3 x6 xv hk hv
end Go.Proofs.YteiohgiecpibhaaGreat
