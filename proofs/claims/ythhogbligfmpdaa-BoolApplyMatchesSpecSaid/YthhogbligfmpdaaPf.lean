/- Plain facts: a diagram's nodes added to others; the number of true entries. No program in sight. -/
import Derived.Test.YthhogbligfmpdaaPe
set_option linter.unusedVariables false
set_option linter.unusedSimpArgs false
namespace Go.Proofs.Ythhogbligfmpdaa.Bd

def mp (at' : Nat → Int) (r : Int) : Int := if r < 0 then r else at' r.toNat

/-- The reference r into ns means what i means in ds. -/
def Sim (ds ns : List Nd) (i r : Int) : Prop := Ref ns r ∧ top ds i ≤ top ns r ∧ ∀ n : Nat, n ≤ 16 → (16 : Int) - n ≤ top ds i → tb ns n r = tb ds n i

theorem Sim.neg {ds ns : List Nd} {i : Int} (h : -2 ≤ i) (h0 : i < 0) : Sim ds ns i i := by
  refine ⟨⟨h, by omega⟩, by rw [top_neg h0, top_neg h0]; exact Int.le_refl _, fun n hn _ => ?_⟩
  rw [tb_const n hn h0, tb_const n hn h0]

theorem Sim.app {ds ns : List Nd} {i r : Int} (h : Sim ds ns i r) (o : Ord ns) (ms : List Nd) : Sim ds (ns ++ ms) i r := by
  refine ⟨h.1.app ms, by rw [top_app h.1]; exact h.2.1, fun n hn hd => ?_⟩
  rw [tb_app o n h.1 (Int.le_trans hd h.2.1)]
  exact h.2.2 n hn hd

theorem Sim.node {ds ns ns' : List Nd} (o : Ord ds) {i : Nat} (hi : i < ds.length) {L H r : Int} (hl : Sim ds ns (lo ds i) L) {hi' : List Nd → Int → Int} (hh : Sim ds ns (hi' ds i) H) (hr : NodeRes ns (nd ds i).1 L H ns' r) (hhi : hi' = Bd.hi) : Sim ds ns' i r := by
  subst hhi
  obtain ⟨a1, a2, _, _, a5, a6⟩ := o i hi
  have ht : top ds i = (nd ds i).1 := top_nat i
  refine ⟨hr.ref, by rw [ht]; exact hr.top, ?_⟩
  obtain ⟨m, hm⟩ : ∃ m : Nat, (15 : Int) - m = (nd ds i).1 := ⟨(15 - (nd ds i).1).toNat, by omega⟩
  have base : tb ns' (m + 1) r = tb ds (m + 1) i := by
    rw [hr.tab m hm, tb_node (by rw [ht]; exact hm), hl.2.2 m (by omega) (by omega), hh.2.2 m (by omega) (by omega)]
  have up : ∀ d, m + 1 + d ≤ 16 → tb ns' (m + 1 + d) r = tb ds (m + 1 + d) i := by
    intro d
    induction d with
    | zero => intro _; exact base
    | succ d ih =>
      intro hd
      rw [← Nat.add_assoc, tb_skip (by have := hr.top; omega), tb_skip (by rw [ht]; omega), ih (by omega)]
  intro n hn hd
  rw [ht] at hd
  have := up (n - (m + 1)) (by omega)
  rw [show m + 1 + (n - (m + 1)) = n by omega] at this
  exact this

/-- The references of a diagram's nodes, the first k. -/
def AI (ds ns : List Nd) (at' : Nat → Int) (k : Nat) : Prop := ∀ i : Nat, i < k → Sim ds ns i (at' i)

theorem AI.app {ds ns : List Nd} {at' : Nat → Int} {k : Nat} (h : AI ds ns at' k) (o : Ord ns) (ms : List Nd) : AI ds (ns ++ ms) at' k := fun i hi => (h i hi).app o ms
theorem AI.mp {ds ns : List Nd} {at' : Nat → Int} {k : Nat} (h : AI ds ns at' k) {r : Int} (h1 : -2 ≤ r) (h2 : r < k) : Sim ds ns r (mp at' r) := by
  unfold Bd.mp
  by_cases h0 : r < 0
  · rw [if_pos h0]; exact Sim.neg h1 h0
  · rw [if_neg h0]
    have := h r.toNat (by omega)
    rw [show ((r.toNat : Nat) : Int) = r by omega] at this
    exact this

/-- The next node. -/
theorem AI.step {ds ns : List Nd} (o : Ord ds) (g : Good ns) {at' : Nat → Int} {k : Nat} (h : AI ds ns at' k) (hk : k < ds.length) :
    NodeRes ns (nd ds k).1 (Bd.mp at' (lo ds k)) (Bd.mp at' (hi ds k)) (nodeS ns (nd ds k).1 (Bd.mp at' (lo ds k)) (Bd.mp at' (hi ds k))).1 (nodeS ns (nd ds k).1 (Bd.mp at' (lo ds k)) (Bd.mp at' (hi ds k))).2 := by
  obtain ⟨a1, a2, a3, a4, a5, a6⟩ := o k hk
  have s1 := h.mp a3.1 a3.2
  have s2 := h.mp a4.1 a4.2
  exact nodeS_spec g a1 a2 s1.1 s2.1 (Int.lt_of_lt_of_le a5 s1.2.1) (Int.lt_of_lt_of_le a6 s2.2.1)

theorem AI.push {ds ns ns' : List Nd} (o : Ord ds) (g : Good ns) {at' : Nat → Int} {k : Nat} {r : Int} (h : AI ds ns at' k) (hk : k < ds.length) (hr : NodeRes ns (nd ds k).1 (Bd.mp at' (lo ds k)) (Bd.mp at' (hi ds k)) ns' r) :
    AI ds ns' (fun j => if j = k then r else at' j) (k + 1) := by
  obtain ⟨a1, a2, a3, a4, a5, a6⟩ := o k hk
  obtain ⟨ms, e, _⟩ := hr.ext
  intro i hi
  by_cases hik : i = k
  · subst hik
    simp only [if_true]
    exact Sim.node o hk (h.mp a3.1 a3.2) (h.mp a4.1 a4.2) hr rfl
  · simp only [if_neg hik]
    rw [e]
    exact (h i (by omega)).app g.ord ms

/-! The number of true entries. -/
def tr (t : List Bool) : Nat := t.count true

theorem tr_append (a b : List Bool) : tr (a ++ b) = tr a + tr b := by simp [tr, List.count_append]
theorem tr_le (t : List Bool) : tr t ≤ t.length := List.count_le_length

theorem tr_up {ds : List Nd} {r : Int} {n : Nat} (h : (16 : Int) - n ≤ top ds r) : ∀ d, tr (tb ds (n + d) r) = 2 ^ d * tr (tb ds n r) := by
  intro d
  induction d with
  | zero => simp
  | succ d ih => rw [← Nat.add_assoc, tb_skip (by omega), tr_append, ih, Nat.pow_succ, Nat.mul_right_comm]; omega

/-- c assignments of the variables u .. vars - 1 make the reference true. -/
def CR (ds : List Nd) (vars : Nat) (r : Int) (u c : Nat) : Prop := c * 2 ^ (16 - vars) = tr (tb ds (16 - u) r)

theorem CR.neg1 (ds : List Nd) (vars u : Nat) : CR ds vars (-1) u 0 := by
  unfold CR
  rw [tb_const _ (by omega) (by omega)]
  simp [tr, List.count_replicate]
theorem CR.neg2 (ds : List Nd) {vars u : Nat} (h : u ≤ vars) (hv : vars ≤ 16) : CR ds vars (-2) u (2 ^ (vars - u)) := by
  unfold CR
  rw [tb_const _ (by omega) (by omega), ← Nat.pow_add]
  simp only [tr, beq_self_eq_true, List.count_replicate_self]
  congr 1; omega

theorem CR.up {ds : List Nd} {vars : Nat} {r : Int} {v u c : Nat} (h : CR ds vars r v c) (ht : top ds r = v) (hu : u ≤ v) (hv : v ≤ 16) : CR ds vars r u (c * 2 ^ (v - u)) := by
  unfold CR at *
  have := tr_up (ds := ds) (r := r) (n := 16 - v) (by omega) (v - u)
  rw [show 16 - v + (v - u) = 16 - u by omega] at this
  rw [this, ← h, Nat.mul_right_comm, Nat.mul_comm]

theorem CR.le {ds : List Nd} {vars : Nat} {r : Int} {u c : Nat} (h : CR ds vars r u c) (hu : u ≤ vars) (hv : vars ≤ 16) : c ≤ 2 ^ (vars - u) := by
  unfold CR at h
  have h1 := tr_le (tb ds (16 - u) r)
  rw [← h, tb_length, show 16 - u = (vars - u) + (16 - vars) by omega, Nat.pow_add] at h1
  exact Nat.le_of_mul_le_mul_right h1 (Nat.two_pow_pos _)

theorem CR.node {ds : List Nd} (o : Ord ds) {vars i v c1 c2 : Nat} (hi : i < ds.length) (hv : (nd ds i).1 = v) (h1 : CR ds vars (lo ds i) (v + 1) c1) (h2 : CR ds vars (Bd.hi ds i) (v + 1) c2) : CR ds vars i v (c1 + c2) := by
  obtain ⟨a1, a2, _⟩ := o i hi
  unfold CR at *
  obtain ⟨m, hm⟩ : ∃ m, 16 - v = m + 1 := ⟨15 - v, by omega⟩
  rw [hm, tb_node (by rw [top_nat, hv]; omega), tr_append, Nat.add_mul, h1, h2, show 16 - (v + 1) = m by omega]

end Go.Proofs.Ythhogbligfmpdaa.Bd
