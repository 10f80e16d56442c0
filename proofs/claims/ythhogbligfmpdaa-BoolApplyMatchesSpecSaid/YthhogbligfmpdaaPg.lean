/- Plain facts: when a diagram is without fault. No program in sight. -/
import Derived.Test.YthhogbligfmpdaaPf
set_option linter.unusedVariables false
set_option linter.unusedSimpArgs false
namespace Go.Proofs.Ythhogbligfmpdaa.Bd

def ndErr (i : Nat) (x : Nd) : Int := if x.1 < 0 ∨ 16 ≤ x.1 then 1 else if x.2.1 < -2 ∨ (i : Int) ≤ x.2.1 ∨ x.2.2 < -2 ∨ (i : Int) ≤ x.2.2 then 2 else 0

/-- The first fault among the first k nodes. -/
def firstErr (ns : List Nd) : Nat → Int
  | 0 => 0
  | k + 1 => if firstErr ns k ≠ 0 then firstErr ns k else ndErr k (nd ns k)

theorem firstErr_zero {ns : List Nd} : ∀ {k : Nat}, firstErr ns k = 0 → ∀ j : Nat, j < k → ndErr j (nd ns j) = 0
  | 0, _, j, hj => by omega
  | k + 1, h, j, hj => by
    simp only [firstErr] at h
    by_cases h0 : firstErr ns k = 0
    · rw [if_neg (by simpa using h0)] at h
      by_cases e : j = k
      · subst e; exact h
      · exact firstErr_zero h0 j (by omega)
    · rw [if_pos h0] at h; exact absurd h h0
theorem firstErr_next {ns : List Nd} {k : Nat} (h : firstErr ns k = 0) : firstErr ns (k + 1) = ndErr k (nd ns k) := by
  simp only [firstErr]; rw [if_neg (by simpa using h)]
theorem firstErr_stop {ns : List Nd} {k n : Nat} (h : firstErr ns k ≠ 0) (hn : k ≤ n) : firstErr ns n = firstErr ns k := by
  induction n with
  | zero => have : k = 0 := by omega
            subst this; rfl
  | succ n ih =>
    by_cases e : k = n + 1
    · rw [e]
    · have := ih (by omega)
      simp only [firstErr]
      rw [if_pos (by rw [this]; exact h), this]
theorem firstErr_at {ns : List Nd} {k n : Nat} (h : firstErr ns k = 0) (hk : k < n) (he : ndErr k (nd ns k) ≠ 0) : firstErr ns n = ndErr k (nd ns k) := by
  have := firstErr_next h
  rw [firstErr_stop (k := k + 1) (by rw [this]; exact he) (by omega), this]

/-- A child's variable is not greater. -/
def cBad (ns : List Nd) (v c : Int) : Prop := 0 ≤ c ∧ (nd ns c).1 ≤ v
def kBad (ns : List Nd) (i : Int) : Prop := cBad ns (nd ns i).1 (lo ns i) ∨ cBad ns (nd ns i).1 (hi ns i)

open Classical in
/-- What the check of a diagram yields. -/
noncomputable def chk (ns : List Nd) (r : Int) : Int :=
  if 2000 < ns.length then 3 else if firstErr ns ns.length ≠ 0 then firstErr ns ns.length else if ∃ i : Nat, i < ns.length ∧ kBad ns i then 2 else if ¬ Ref ns r then 2 else
    if cnRoot (tb ns 16 r) = r ∧ cnNodes (tb ns 16 r) = ns then 0 else 2

theorem ndErr_cases {i : Nat} {v l h : Int} (h0 : ndErr i (v, l, h) = 0) : 0 ≤ v ∧ v < 16 ∧ -2 ≤ l ∧ l < i ∧ -2 ≤ h ∧ h < i := by
  unfold ndErr at h0
  simp only at h0
  split at h0
  · simp at h0
  · split at h0
    · simp at h0
    · omega
theorem ndErr_one {i : Nat} {v l h : Int} (h0 : v < 0 ∨ 16 ≤ v) : ndErr i (v, l, h) = 1 := by simp [ndErr, h0]
theorem ndErr_two {i : Nat} {v l h : Int} (h0 : ¬ (v < 0 ∨ 16 ≤ v)) (h1 : l < -2 ∨ (i : Int) ≤ l ∨ h < -2 ∨ (i : Int) ≤ h) : ndErr i (v, l, h) = 2 := by
  unfold ndErr; simp only; rw [if_neg h0, if_pos h1]
theorem ndErr_ok {i : Nat} {v l h : Int} (h0 : ¬ (v < 0 ∨ 16 ≤ v)) (h1 : ¬ (l < -2 ∨ (i : Int) ≤ l ∨ h < -2 ∨ (i : Int) ≤ h)) : ndErr i (v, l, h) = 0 := by
  unfold ndErr; simp only; rw [if_neg h0, if_neg h1]

theorem ord_of {ns : List Nd} (h1 : firstErr ns ns.length = 0) (h2 : ∀ i : Nat, i < ns.length → ¬ kBad ns i) : Ord ns := by
  intro i hi
  have e := firstErr_zero h1 i hi
  have k := h2 i hi
  have hn : nd ns i = ((nd ns i).1, lo ns i, Bd.hi ns i) := rfl
  rw [hn] at e
  obtain ⟨a, b, c, d, f, g⟩ := ndErr_cases e
  refine ⟨a, b, ⟨c, d⟩, ⟨f, g⟩, ?_, ?_⟩
  · unfold top
    split
    · omega
    · rcases Int.lt_or_le (nd ns i).1 (nd ns (lo ns i)).1 with x | x
      · exact x
      · exact absurd (Or.inl ⟨by omega, x⟩) k
  · unfold top
    split
    · omega
    · rcases Int.lt_or_le (nd ns i).1 (nd ns (Bd.hi ns i)).1 with x | x
      · exact x
      · exact absurd (Or.inr ⟨by omega, x⟩) k

theorem chk_size {ns : List Nd} {r : Int} (h : 2000 < ns.length) : chk ns r = 3 := by unfold chk; rw [if_pos h]
theorem chk_first {ns : List Nd} {r : Int} (h : ¬ 2000 < ns.length) {k : Nat} (h0 : firstErr ns k = 0) (hk : k < ns.length) {e : Int} (he : ndErr k (nd ns k) = e) (hne : e ≠ 0) : chk ns r = e := by
  have := firstErr_at h0 hk (by rw [he]; exact hne)
  unfold chk; rw [if_neg h, if_pos (by rw [this, he]; exact hne), this, he]
theorem chk_ord {ns : List Nd} {r : Int} (h : ¬ 2000 < ns.length) (h0 : firstErr ns ns.length = 0) {i : Nat} (hi : i < ns.length) (hk : kBad ns i) : chk ns r = 2 := by
  unfold chk; rw [if_neg h, if_neg (by simpa using h0), if_pos ⟨i, hi, hk⟩]
theorem chk_ref {ns : List Nd} {r : Int} (h : ¬ 2000 < ns.length) (h0 : firstErr ns ns.length = 0) (hk : ∀ i : Nat, i < ns.length → ¬ kBad ns i) (hr : ¬ Ref ns r) : chk ns r = 2 := by
  unfold chk; rw [if_neg h, if_neg (by simpa using h0), if_neg (by rintro ⟨i, a, b⟩; exact hk i a b), if_pos hr]
open Classical in
theorem chk_last {ns : List Nd} {r : Int} (h : ¬ 2000 < ns.length) (h0 : firstErr ns ns.length = 0) (hk : ∀ i : Nat, i < ns.length → ¬ kBad ns i) (hr : Ref ns r) : chk ns r = if cnRoot (tb ns 16 r) = r ∧ cnNodes (tb ns 16 r) = ns then 0 else 2 := by
  unfold chk; rw [if_neg h, if_neg (by simpa using h0), if_neg (by rintro ⟨i, a, b⟩; exact hk i a b), if_neg (by simpa using hr)]

end Go.Proofs.Ythhogbligfmpdaa.Bd
