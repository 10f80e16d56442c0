/- Facts for the rule that must differ. -/
import Derived.Test.YteiohgiecpibhaaGreatMO
import Derived.Test.YteiohgiecpibhaaGreatMK
set_option linter.unusedVariables false
set_option linter.unusedSimpArgs false
namespace Go.Proofs.YteiohgiecpibhaaGreat
open Go.RowKit Fdm

theorem cs0 : Lib.compact (srt []) = isort [] := by
  simp [srt, Lib.compact, Lib.compactUpTo, isort]
theorem cs1 (v : Int) : Lib.compact (srt [v]) = isort [v] := by
  simp [srt, Lib.compact, Lib.compactUpTo, isort, Lib.keeps, List.range_succ]
theorem srt2 (u v : Int) : srt [u, v] = if u ≤ v then [u, v] else [v, u] := by
  simp [srt, List.mergeSort, List.MergeSort.Internal.splitInTwo, List.merge]
theorem cs2 (u v : Int) (h : u ≠ v) : Lib.compact (srt [u, v]) = isort [u, v] := by
  rw [srt2]
  by_cases q : u ≤ v
  · have : u < v := by omega
    have h2 : ¬ v < u := by omega
    simp [q, Lib.compact, Lib.compactUpTo, isort, Lib.keeps, List.range_succ, h, h2]
    exact ⟨1, by simp [Lib.keeps, Ne.symm h], rfl⟩
  · have : v < u := by omega
    simp [q, Lib.compact, Lib.compactUpTo, isort, Lib.keeps, List.range_succ, Ne.symm h, this]
    exact ⟨1, by simp [Lib.keeps, h], rfl⟩
end Go.Proofs.YteiohgiecpibhaaGreat
set_option linter.unusedVariables false
set_option linter.unusedSimpArgs false
namespace Go.Proofs.YteiohgiecpibhaaGreat
open Go.RowKit Fdm

theorem size_ge {d : Dm} (ok : Ok d) : ∀ k, k ≤ d.length → (k : Int) ≤ sizeTo d k
  | 0, _ => by simp [sizeTo, sizeF]
  | k + 1, hk => by
    have ih := size_ge ok k (by omega)
    have z := spanF_zero (ok k (by omega))
    rw [sizeTo_next (by omega)]
    omega
/-- A small domain is one number. -/
theorem one_of {d : Dm} (ok : Ok d) (h0 : 0 < d.length) (hs : sizeF d < 2) : d = [(leastF d, leastF d)] ∧ -16384 ≤ leastF d ∧ leastF d ≤ 16384 := by
  match d, h0 with
  | [s], _ =>
    have z := spanF_zero (ok 0 (by simp))
    have e : sizeF [s] = s.2 - s.1 + 1 := by simp [sizeF]
    have z1 : -16384 ≤ s.1 := z.1
    have z2 : s.2 ≤ 16384 := z.2.1
    have z3 : s.1 ≤ s.2 := z.2.2.1
    have q : s.1 = s.2 := by omega
    have l : leastF [s] = s.1 := rfl
    rw [l]
    exact ⟨by rw [show (s.1, s.1) = s from Prod.ext rfl q], z1, by omega⟩
  | s :: t :: d, _ =>
    exfalso
    have p := size_ge ok _ (Nat.le_refl _)
    rw [sizeTo_all] at p
    simp at p
    omega
/-- The small ones, as the program lists them. -/
def smallI (D : List Dm) : List Int := (smallF D).map fun (i : Nat) => (i : Int)
theorem smallF_mem {D : List Dm} {i : Nat} : i ∈ smallF D ↔ i < D.length ∧ sizeF (dm D i) < D.length := by
  simp [smallF]
theorem smallI_at {D : List Dm} {k : Nat} (h : k < (smallI D).length) : (smallI D).getD k 0 = (((smallF D).getD k 0 : Nat) : Int) ∧ (smallF D).getD k 0 ∈ smallF D := by
  have h2 : k < (smallF D).length := by simpa [smallI] using h
  refine ⟨?_, ?_⟩
  · simp [smallI, List.getD_eq_getElem?_getD, h2]
  · rw [List.getD_eq_getElem?_getD, List.getElem?_eq_getElem h2]; exact List.getElem_mem h2
theorem smallF_two {D : List Dm} (hn : D.length = 2) : smallF D = (if sizeF (dm D 0) < 2 then [0] else []) ++ (if sizeF (dm D 1) < 2 then [1] else []) := by
  unfold smallF
  rw [hn]
  by_cases a : sizeF (dm D 0) < 2 <;> by_cases b : sizeF (dm D 1) < 2 <;> simp [List.range_succ, List.filter_cons, a, b]
theorem sml_of {D : List Dm} (hn : D.length = 2) (ok : okD D = true) (hd : ¬ (sizeF (dm D 0) < 2 ∧ sizeF (dm D 1) < 2 ∧ leastF (dm D 0) = leastF (dm D 1))) : Sml D (smallI D) 2 := by
  refine ⟨fun k hk => ?_, fun j k hjk hk => ?_⟩
  · obtain ⟨e, m⟩ := smallI_at hk
    obtain ⟨m1, m2⟩ := smallF_mem.1 m
    have o := okD_at ok m1
    rw [hn] at m1 m2
    obtain ⟨p, q1, q2⟩ := one_of o.2.2 (by have := o.1; exact List.length_pos_iff.2 this) (by simpa using m2)
    unfold vl
    rw [e]
    simp only [Int.toNat_natCast]
    exact ⟨trivial, m1, p, by omega, by omega⟩
  · have hl : (smallI D).length ≤ 2 := by
      unfold smallI; rw [smallF_two hn]
      by_cases a : sizeF (dm D 0) < 2 <;> by_cases b : sizeF (dm D 1) < 2 <;> simp [a, b]
    obtain rfl : j = 0 := by omega
    obtain rfl : k = 1 := by omega
    by_cases a : sizeF (dm D 0) < 2
    · by_cases b : sizeF (dm D 1) < 2
      · have e : smallI D = [0, 1] := by unfold smallI; rw [smallF_two hn]; simp [a, b]
        unfold vl
        rw [e]
        exact fun q => hd ⟨a, b, q⟩
      · exfalso; unfold smallI at hk; rw [smallF_two hn] at hk; simp [a, b] at hk
    · exfalso; unfold smallI at hk; rw [smallF_two hn] at hk
      by_cases b : sizeF (dm D 1) < 2 <;> simp [a, b] at hk
theorem okM_first {D : List Dm} : okM D (smallI D) (-1) 0 false = true := by
  unfold okM
  rw [List.all_eq_true]
  intro k _
  simp [okA]
theorem okM_free {D : List Dm} {i : Nat} {v : Int} : okM D (smallI D) (i : Int) v true = freeF D i v := by
  have key : okM D (smallI D) (i : Int) v true = true ↔ freeF D i v = true := by
    unfold okM freeF
    rw [List.all_eq_true, List.all_eq_true]
    constructor
    · intro h j hj
      obtain ⟨k, hk, rfl⟩ := List.getElem_of_mem hj
      have hk2 : k < (smallI D).length := by simpa [smallI] using hk
      have q := h k (List.mem_range.2 hk2)
      have e := (smallI_at hk2).1
      have e2 : (smallF D).getD k 0 = (smallF D)[k] := by rw [List.getD_eq_getElem?_getD, List.getElem?_eq_getElem hk]; rfl
      rw [e2] at e
      unfold okA vl at q
      rw [e] at q
      simpa [Int.ofNat_inj, Int.natCast_inj] using q
    · intro h k hk
      have hk2 := List.mem_range.1 hk
      obtain ⟨e, m⟩ := smallI_at hk2
      have q := h _ m
      unfold okA vl
      rw [e]
      simpa [Int.ofNat_inj, Int.natCast_inj] using q
  cases a : okM D (smallI D) (i : Int) v true <;> cases b : freeF D i v <;> simp_all
end Go.Proofs.YteiohgiecpibhaaGreat
set_option linter.unusedVariables false
set_option linter.unusedSimpArgs false
namespace Go.Proofs.YteiohgiecpibhaaGreat
open Go.RowKit Fdm

theorem pick_two {D : List Dm} (hn : D.length = 2) : pickF D exC = D := by
  match D, hn with
  | [a, b], _ => rfl
theorem exG_parts {D : List Dm} (h : exG exC D = true) : D.length = 2 ∧ okD D = true ∧ ¬ (sizeF (dm D 0) < 2 ∧ sizeF (dm D 1) < 2 ∧ leastF (dm D 0) = leastF (dm D 1)) ∧ ∀ d ∈ difF D, d.length ≤ 1000 := by
  unfold exG at h
  simp only [Bool.and_eq_true, decide_eq_true_eq, Bool.not_eq_true', List.all_eq_true] at h
  obtain ⟨⟨⟨⟨_, h1⟩, h2⟩, h3⟩, h4⟩ := h
  refine ⟨h1, h2, fun q => ?_, h4⟩
  obtain ⟨q1, q2, q3⟩ := q
  simp [q1, q2, q3] at h3
theorem dm_len {D : List Dm} {i m : Nat} (h : ∀ d ∈ D, d.length ≤ m) : (dm D i).length ≤ m := by
  show (D.getD i []).length ≤ m
  rw [List.getD_eq_getElem?_getD]
  cases e : D[i]? with
  | none => simp
  | some d => exact h d (List.mem_of_getElem? e)
theorem ruOk_of {D : List Dm} (h : exG exC D = true) (C : ∀ (W : World) (x1 x2 x3 x6 xv : Value), Kc W exC x1 x2 x3 x6 → DsV W D xv → Calls Tryz.prog 151 #[.agg #[.int .i64 exC.kind, x1, x2, x3, .int .i64 exC.rel, .int .i64 exC.bound, x6], xv] W fun e W' => ∃ v, e = .returned v ∧ DsW W' W.heap.size (difF D) v ∧ Below W.heap.size W W') : RuOk exRu exC D := by
  obtain ⟨h1, h2, _, h4⟩ := exG_parts h
  have hp := pick_two h1
  refine ⟨rfl, ?_, fun i => ?_, fun v => dm_len fun d hd => ?_, fun W x1 x2 x3 x6 xv hk hv => ?_⟩
  · rw [hp]
    show (difF D).length = 2
    simp [difF, h1]
  · rw [hp]; exact dm_len h4
  · unfold okD at h2
    have := List.all_eq_true.1 h2 d hd
    simp only [Bool.and_eq_true, decide_eq_true_eq] at this
    exact this.1.2
  · rw [hp] at hv ⊢
    exact C W x1 x2 x3 x6 xv hk hv
end Go.Proofs.YteiohgiecpibhaaGreat
