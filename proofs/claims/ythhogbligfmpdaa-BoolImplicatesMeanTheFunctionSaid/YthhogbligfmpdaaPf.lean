/- Plain facts: a diagram's nodes added to others; the number of true entries. No program in sight. -/
import Derived.Test.YthhogbligfmpdaaPa
set_option linter.unusedVariables false
set_option linter.unusedSimpArgs false
namespace Go.Proofs.Ythhogbligfmpdaa.Bd

def mp (at' : Nat → Int) (r : Int) : Int := if r < 0 then r else at' r.toNat

/-- The reference r into ns means what i means in ds. -/
def Sim (ds ns : List Nd) (i r : Int) : Prop := Ref ns r ∧ top ds i ≤ top ns r ∧ ∀ n : Nat, n ≤ 16 → (16 : Int) - n ≤ top ds i → tb ns n r = tb ds n i

theorem Sim.neg {ds ns : List Nd} {i : Int} (h : -2 ≤ i) (h0 : i < 0) : Sim ds ns i i := by
  refine ⟨⟨h, by omega⟩, by rw [top_neg h0, top_neg h0]; exact Int.le_refl _, fun n hn _ => ?_⟩
  rw [tb_const n hn h0, tb_const n hn h0]

theorem Sim.app {ds ns : List Nd} {i r : Int} (h : Sim ds ns i r) (o : Ord ns) (ms : List Nd) : Sim ds (ns ++ ms) i r := by
  refine ⟨h.1.app ms, by rw [top_app h.1]; exact h.2.1, fun n hn hd => ?_⟩
  rw [tb_app o n h.1 (Int.le_trans hd h.2.1)]
  exact h.2.2 n hn hd

theorem Sim.node {ds ns ns' : List Nd} (o : Ord ds) {i : Nat} (hi : i < ds.length) {L H r : Int} (hl : Sim ds ns (lo ds i) L) {hi' : List Nd → Int → Int} (hh : Sim ds ns (hi' ds i) H) (hr : NodeRes ns (nd ds i).1 L H ns' r) (hhi : hi' = Bd.hi) : Sim ds ns' i r := by
  subst hhi
  obtain ⟨a1, a2, _, _, a5, a6⟩ := o i hi
  have ht : top ds i = (nd ds i).1 := top_nat i
  refine ⟨hr.ref, by rw [ht]; exact hr.top, ?_⟩
  obtain ⟨m, hm⟩ : ∃ m : Nat, (15 : Int) - m = (nd ds i).1 := ⟨(15 - (nd ds i).1).toNat, by omega⟩
  have base : tb ns' (m + 1) r = tb ds (m + 1) i := by
    rw [hr.tab m hm, tb_node (by rw [ht]; exact hm), hl.2.2 m (by omega) (by omega), hh.2.2 m (by omega) (by omega)]
  have up : ∀ d, m + 1 + d ≤ 16 → tb ns' (m + 1 + d) r = tb ds (m + 1 + d) i := by
    intro d
    induction d with
    | zero => intro _; exact base
    | succ d ih =>
      intro hd
      rw [← Nat.add_assoc, tb_skip (by have := hr.top; omega), tb_skip (by rw [ht]; omega), ih (by omega)]
  intro n hn hd
  rw [ht] at hd
  have := up (n - (m + 1)) (by omega)
  rw [show m + 1 + (n - (m + 1)) = n by omega] at this
  exact this

/-- The references of a diagram's nodes, the first k. -/
def AI (ds ns : List Nd) (at' : Nat → Int) (k : Nat) : Prop := ∀ i : Nat, i < k → Sim ds ns i (at' i)

theorem AI.app {ds ns : List Nd} {at' : Nat → Int} {k : Nat} (h : AI ds ns at' k) (o : Ord ns) (ms : List Nd) : AI ds (ns ++ ms) at' k := fun i hi => (h i hi).app o ms
theorem AI.mp {ds ns : List Nd} {at' : Nat → Int} {k : Nat} (h : AI ds ns at' k) {r : Int} (h1 : -2 ≤ r) (h2 : r < k) : Sim ds ns r (mp at' r) := by
  unfold Bd.mp
  by_cases h0 : r < 0
  · rw [if_pos h0]; exact Sim.neg h1 h0
  · rw [if_neg h0]
    have := h r.toNat (by omega)
    rw [show ((r.toNat : Nat) : Int) = r by omega] at this
    exact this

/-- The next node. -/
theorem AI.step {ds ns : List Nd} (o : Ord ds) (g : Good ns) {at' : Nat → Int} {k : Nat} (h : AI ds ns at' k) (hk : k < ds.length) :
    NodeRes ns (nd ds k).1 (Bd.mp at' (lo ds k)) (Bd.mp at' (hi ds k)) (nodeS ns (nd ds k).1 (Bd.mp at' (lo ds k)) (Bd.mp at' (hi ds k))).1 (nodeS ns (nd ds k).1 (Bd.mp at' (lo ds k)) (Bd.mp at' (hi ds k))).2 := by
  obtain ⟨a1, a2, a3, a4, a5, a6⟩ := o k hk
  have s1 := h.mp a3.1 a3.2
  have s2 := h.mp a4.1 a4.2
  exact nodeS_spec g a1 a2 s1.1 s2.1 (Int.lt_of_lt_of_le a5 s1.2.1) (Int.lt_of_lt_of_le a6 s2.2.1)

theorem AI.push {ds ns ns' : List Nd} (o : Ord ds) (g : Good ns) {at' : Nat → Int} {k : Nat} {r : Int} (h : AI ds ns at' k) (hk : k < ds.length) (hr : NodeRes ns (nd ds k).1 (Bd.mp at' (lo ds k)) (Bd.mp at' (hi ds k)) ns' r) :
    AI ds ns' (fun j => if j = k then r else at' j) (k + 1) := by
  obtain ⟨a1, a2, a3, a4, a5, a6⟩ := o k hk
  obtain ⟨ms, e, _⟩ := hr.ext
  intro i hi
  by_cases hik : i = k
  · subst hik
    simp only [if_true]
    exact Sim.node o hk (h.mp a3.1 a3.2) (h.mp a4.1 a4.2) hr rfl
  · simp only [if_neg hik]
    rw [e]
    exact (h i (by omega)).app g.ord ms

/-! The number of true entries. -/
def tr (t : List Bool) : Nat := t.count true

theorem tr_append (a b : List Bool) : tr (a ++ b) = tr a + tr b := by simp [tr, List.count_append]
theorem tr_le (t : List Bool) : tr t ≤ t.length := List.count_le_length

theorem tr_up {ds : List Nd} {r : Int} {n : Nat} (h : (16 : Int) - n ≤ top ds r) : ∀ d, tr (tb ds (n + d) r) = 2 ^ d * tr (tb ds n r) := by
  intro d
  induction d with
  | zero => simp
  | succ d ih => rw [← Nat.add_assoc, tb_skip (by omega), tr_append, ih, Nat.pow_succ, Nat.mul_right_comm]; omega

/-- c assignments of the variables u .. vars - 1 make the reference true. -/
def CR (ds : List Nd) (vars : Nat) (r : Int) (u c : Nat) : Prop := c * 2 ^ (16 - vars) = tr (tb ds (16 - u) r)

theorem CR.neg1 (ds : List Nd) (vars u : Nat) : CR ds vars (-1) u 0 := by
  unfold CR
  rw [tb_const _ (by omega) (by omega)]
  simp [tr, List.count_replicate]
theorem CR.neg2 (ds : List Nd) {vars u : Nat} (h : u ≤ vars) (hv : vars ≤ 16) : CR ds vars (-2) u (2 ^ (vars - u)) := by
  unfold CR
  rw [tb_const _ (by omega) (by omega), ← Nat.pow_add]
  simp only [tr, beq_self_eq_true, List.count_replicate_self]
  congr 1; omega

theorem CR.up {ds : List Nd} {vars : Nat} {r : Int} {v u c : Nat} (h : CR ds vars r v c) (ht : top ds r = v) (hu : u ≤ v) (hv : v ≤ 16) : CR ds vars r u (c * 2 ^ (v - u)) := by
  unfold CR at *
  have := tr_up (ds := ds) (r := r) (n := 16 - v) (by omega) (v - u)
  rw [show 16 - v + (v - u) = 16 - u by omega] at this
  rw [this, ← h, Nat.mul_right_comm, Nat.mul_comm]

theorem CR.le {ds : List Nd} {vars : Nat} {r : Int} {u c : Nat} (h : CR ds vars r u c) (hu : u ≤ vars) (hv : vars ≤ 16) : c ≤ 2 ^ (vars - u) := by
  unfold CR at h
  have h1 := tr_le (tb ds (16 - u) r)
  rw [← h, tb_length, show 16 - u = (vars - u) + (16 - vars) by omega, Nat.pow_add] at h1
  exact Nat.le_of_mul_le_mul_right h1 (Nat.two_pow_pos _)

theorem CR.node {ds : List Nd} (o : Ord ds) {vars i v c1 c2 : Nat} (hi : i < ds.length) (hv : (nd ds i).1 = v) (h1 : CR ds vars (lo ds i) (v + 1) c1) (h2 : CR ds vars (Bd.hi ds i) (v + 1) c2) : CR ds vars i v (c1 + c2) := by
  obtain ⟨a1, a2, _⟩ := o i hi
  unfold CR at *
  obtain ⟨m, hm⟩ : ∃ m, 16 - v = m + 1 := ⟨15 - v, by omega⟩
  rw [hm, tb_node (by rw [top_nat, hv]; omega), tr_append, Nat.add_mul, h1, h2, show 16 - (v + 1) = m by omega]

end Go.Proofs.Ythhogbligfmpdaa.Bd

/- Plain facts: when a diagram is without fault. No program in sight. -/
namespace Go.Proofs.Ythhogbligfmpdaa.Bd

def ndErr (i : Nat) (x : Nd) : Int := if x.1 < 0 ∨ 16 ≤ x.1 then 1 else if x.2.1 < -2 ∨ (i : Int) ≤ x.2.1 ∨ x.2.2 < -2 ∨ (i : Int) ≤ x.2.2 then 2 else 0

/-- The first fault among the first k nodes. -/
def firstErr (ns : List Nd) : Nat → Int
  | 0 => 0
  | k + 1 => if firstErr ns k ≠ 0 then firstErr ns k else ndErr k (nd ns k)

theorem firstErr_zero {ns : List Nd} : ∀ {k : Nat}, firstErr ns k = 0 → ∀ j : Nat, j < k → ndErr j (nd ns j) = 0
  | 0, _, j, hj => by omega
  | k + 1, h, j, hj => by
    simp only [firstErr] at h
    by_cases h0 : firstErr ns k = 0
    · rw [if_neg (by simpa using h0)] at h
      by_cases e : j = k
      · subst e; exact h
      · exact firstErr_zero h0 j (by omega)
    · rw [if_pos h0] at h; exact absurd h h0
theorem firstErr_next {ns : List Nd} {k : Nat} (h : firstErr ns k = 0) : firstErr ns (k + 1) = ndErr k (nd ns k) := by
  simp only [firstErr]; rw [if_neg (by simpa using h)]
theorem firstErr_stop {ns : List Nd} {k n : Nat} (h : firstErr ns k ≠ 0) (hn : k ≤ n) : firstErr ns n = firstErr ns k := by
  induction n with
  | zero => have : k = 0 := by omega
            subst this; rfl
  | succ n ih =>
    by_cases e : k = n + 1
    · rw [e]
    · have := ih (by omega)
      simp only [firstErr]
      rw [if_pos (by rw [this]; exact h), this]
theorem firstErr_at {ns : List Nd} {k n : Nat} (h : firstErr ns k = 0) (hk : k < n) (he : ndErr k (nd ns k) ≠ 0) : firstErr ns n = ndErr k (nd ns k) := by
  have := firstErr_next h
  rw [firstErr_stop (k := k + 1) (by rw [this]; exact he) (by omega), this]

/-- A child's variable is not greater. -/
def cBad (ns : List Nd) (v c : Int) : Prop := 0 ≤ c ∧ (nd ns c).1 ≤ v
def kBad (ns : List Nd) (i : Int) : Prop := cBad ns (nd ns i).1 (lo ns i) ∨ cBad ns (nd ns i).1 (hi ns i)

open Classical in
/-- What the check of a diagram yields. -/
noncomputable def chk (ns : List Nd) (r : Int) : Int :=
  if 2000 < ns.length then 3 else if firstErr ns ns.length ≠ 0 then firstErr ns ns.length else if ∃ i : Nat, i < ns.length ∧ kBad ns i then 2 else if ¬ Ref ns r then 2 else
    if cnRoot (tb ns 16 r) = r ∧ cnNodes (tb ns 16 r) = ns then 0 else 2

theorem ndErr_cases {i : Nat} {v l h : Int} (h0 : ndErr i (v, l, h) = 0) : 0 ≤ v ∧ v < 16 ∧ -2 ≤ l ∧ l < i ∧ -2 ≤ h ∧ h < i := by
  unfold ndErr at h0
  simp only at h0
  split at h0
  · simp at h0
  · split at h0
    · simp at h0
    · omega
theorem ndErr_one {i : Nat} {v l h : Int} (h0 : v < 0 ∨ 16 ≤ v) : ndErr i (v, l, h) = 1 := by simp [ndErr, h0]
theorem ndErr_two {i : Nat} {v l h : Int} (h0 : ¬ (v < 0 ∨ 16 ≤ v)) (h1 : l < -2 ∨ (i : Int) ≤ l ∨ h < -2 ∨ (i : Int) ≤ h) : ndErr i (v, l, h) = 2 := by
  unfold ndErr; simp only; rw [if_neg h0, if_pos h1]
theorem ndErr_ok {i : Nat} {v l h : Int} (h0 : ¬ (v < 0 ∨ 16 ≤ v)) (h1 : ¬ (l < -2 ∨ (i : Int) ≤ l ∨ h < -2 ∨ (i : Int) ≤ h)) : ndErr i (v, l, h) = 0 := by
  unfold ndErr; simp only; rw [if_neg h0, if_neg h1]

theorem ord_of {ns : List Nd} (h1 : firstErr ns ns.length = 0) (h2 : ∀ i : Nat, i < ns.length → ¬ kBad ns i) : Ord ns := by
  intro i hi
  have e := firstErr_zero h1 i hi
  have k := h2 i hi
  have hn : nd ns i = ((nd ns i).1, lo ns i, Bd.hi ns i) := rfl
  rw [hn] at e
  obtain ⟨a, b, c, d, f, g⟩ := ndErr_cases e
  refine ⟨a, b, ⟨c, d⟩, ⟨f, g⟩, ?_, ?_⟩
  · unfold top
    split
    · omega
    · rcases Int.lt_or_le (nd ns i).1 (nd ns (lo ns i)).1 with x | x
      · exact x
      · exact absurd (Or.inl ⟨by omega, x⟩) k
  · unfold top
    split
    · omega
    · rcases Int.lt_or_le (nd ns i).1 (nd ns (Bd.hi ns i)).1 with x | x
      · exact x
      · exact absurd (Or.inr ⟨by omega, x⟩) k

theorem chk_size {ns : List Nd} {r : Int} (h : 2000 < ns.length) : chk ns r = 3 := by unfold chk; rw [if_pos h]
theorem chk_first {ns : List Nd} {r : Int} (h : ¬ 2000 < ns.length) {k : Nat} (h0 : firstErr ns k = 0) (hk : k < ns.length) {e : Int} (he : ndErr k (nd ns k) = e) (hne : e ≠ 0) : chk ns r = e := by
  have := firstErr_at h0 hk (by rw [he]; exact hne)
  unfold chk; rw [if_neg h, if_pos (by rw [this, he]; exact hne), this, he]
theorem chk_ord {ns : List Nd} {r : Int} (h : ¬ 2000 < ns.length) (h0 : firstErr ns ns.length = 0) {i : Nat} (hi : i < ns.length) (hk : kBad ns i) : chk ns r = 2 := by
  unfold chk; rw [if_neg h, if_neg (by simpa using h0), if_pos ⟨i, hi, hk⟩]
theorem chk_ref {ns : List Nd} {r : Int} (h : ¬ 2000 < ns.length) (h0 : firstErr ns ns.length = 0) (hk : ∀ i : Nat, i < ns.length → ¬ kBad ns i) (hr : ¬ Ref ns r) : chk ns r = 2 := by
  unfold chk; rw [if_neg h, if_neg (by simpa using h0), if_neg (by rintro ⟨i, a, b⟩; exact hk i a b), if_pos hr]
open Classical in
theorem chk_last {ns : List Nd} {r : Int} (h : ¬ 2000 < ns.length) (h0 : firstErr ns ns.length = 0) (hk : ∀ i : Nat, i < ns.length → ¬ kBad ns i) (hr : Ref ns r) : chk ns r = if cnRoot (tb ns 16 r) = r ∧ cnNodes (tb ns 16 r) = ns then 0 else 2 := by
  unfold chk; rw [if_neg h, if_neg (by simpa using h0), if_neg (by rintro ⟨i, a, b⟩; exact hk i a b), if_neg (by simpa using hr)]

end Go.Proofs.Ythhogbligfmpdaa.Bd

/- Plain facts: the canonical diagram of a table is in order, reduced, and has that table. No program in sight. -/
namespace Go.Proofs.Ythhogbligfmpdaa.Bd

/-- Finished nodes: each is a true node of a table of its level, behind its parts; none is there twice. -/
structure PC (acc : List Key) : Prop where
  nodup : acc.Nodup
  each : ∀ (i : Nat) (h : i < acc.length), ∃ n t, acc[i] = (n + 1, t) ∧ n + 1 ≤ 16 ∧ t.length = 2 ^ (n + 1) ∧ t.take (2 ^ n) ≠ t.drop (2 ^ n) ∧ Has (acc.take i) n (t.take (2 ^ n)) ∧ Has (acc.take i) n (t.drop (2 ^ n))

theorem PC.nil : PC [] := ⟨List.nodup_nil, fun i h => by simp at h⟩

theorem dfs_new {n : Nat} {t a b : List Bool} {acc : List Key} (hm : (n + 1, t) ∉ acc) : (n + 1, t) ∉ dfs n a (dfs n b acc) := by
  intro hx
  rcases dfs_lev _ _ _ _ hx with hx | hx
  · rcases dfs_lev _ _ _ _ hx with hx | hx
    · exact hm hx
    · simp at hx; omega
  · simp at hx; omega

theorem PC.dfs (n : Nat) : ∀ (t : List Bool) (acc : List Key), n ≤ 16 → t.length = 2 ^ n → PC acc → PC (Bd.dfs n t acc) := by
  induction n with
  | zero => intro t acc _ _ h; exact h
  | succ n ih =>
    intro t acc hn hl h
    obtain ⟨h1, h2⟩ := half_len hl
    rw [dfs_succ]
    by_cases e : t.take (2 ^ n) = t.drop (2 ^ n)
    · rw [if_pos e]; exact ih _ _ (by omega) h1 h
    · rw [if_neg e]
      by_cases hm : (n + 1, t) ∈ acc
      · rw [if_pos hm]; exact h
      · rw [if_neg hm]
        have p1 := ih (t.take (2 ^ n)) acc (by omega) h1 h
        have p2 := ih (t.drop (2 ^ n)) _ (by omega) h2 p1
        have a1 := dfs_has n (t.take (2 ^ n)) acc
        have a2 := dfs_has n (t.drop (2 ^ n)) (Bd.dfs n (t.take (2 ^ n)) acc)
        obtain ⟨l2, e2⟩ := dfs_app n (t.drop (2 ^ n)) (Bd.dfs n (t.take (2 ^ n)) acc)
        have a3 : Has (Bd.dfs n (t.drop (2 ^ n)) (Bd.dfs n (t.take (2 ^ n)) acc)) n (t.take (2 ^ n)) := by rw [e2]; exact a1.app _ _ _
        have hnew := dfs_new (a := t.drop (2 ^ n)) (b := t.take (2 ^ n)) hm
        generalize Bd.dfs n (t.drop (2 ^ n)) (Bd.dfs n (t.take (2 ^ n)) acc) = A at *
        refine ⟨?_, fun i hi => ?_⟩
        · rw [List.nodup_append]
          refine ⟨p2.nodup, by simp, ?_⟩
          intro x hx y hy
          simp at hy; subst hy
          exact fun e => hnew (e ▸ hx)
        · by_cases hlt : i < A.length
          · obtain ⟨m, s, q1, q2, q3, q4, q5, q6⟩ := p2.each i hlt
            have ht : (A ++ [(n + 1, t)]).take i = A.take i := List.take_append_of_le_length (by omega)
            rw [ht]
            refine ⟨m, s, ?_, q2, q3, q4, q5, q6⟩
            rw [List.getElem_append_left hlt]; exact q1
          · have hi' : i = A.length := by simp at hi; omega
            subst hi'
            have ht : (A ++ [(n + 1, t)]).take A.length = A := by simp
            rw [ht]
            refine ⟨n, t, by simp, hn, hl, e, a3, a2⟩

theorem Has.bound {acc : List Key} (n : Nat) : ∀ (t : List Bool), Has acc n t → -2 ≤ rf acc n t ∧ rf acc n t < acc.length := by
  induction n with
  | zero => intro t _; unfold rf; split <;> omega
  | succ n ih =>
    intro t h
    have h' : if t.take (2 ^ n) = t.drop (2 ^ n) then Has acc n (t.take (2 ^ n)) else (n + 1, t) ∈ acc := h
    rw [rf_succ]
    by_cases e : t.take (2 ^ n) = t.drop (2 ^ n)
    · rw [if_pos e] at h' ⊢; exact ih _ h'
    · rw [if_neg e] at h' ⊢
      have := List.idxOf_lt_length_iff.2 h'
      omega

/-- The nodes of finished keys. -/
def ndsOf (acc : List Key) : List Nd := acc.map (ndOf acc)
theorem mk_length (acc : List Key) : (ndsOf acc).length = acc.length := by simp [ndsOf]
theorem mk_nd {acc : List Key} {i : Nat} (h : i < acc.length) : nd (ndsOf acc) i = ndOf acc acc[i] := by
  rw [nd_of_lt (by rw [mk_length]; exact h)]
  simp [ndsOf]
theorem ndOf_mk (acc : List Key) (n : Nat) (t : List Bool) : ndOf acc (n + 1, t) = (15 - (n : Int), rf acc n (t.take (2 ^ n)), rf acc n (t.drop (2 ^ n))) := by
  simp only [ndOf, Nat.add_sub_cancel, Prod.mk.injEq, and_true]
  omega

theorem mk_idx {acc : List Key} {n : Nat} {t : List Bool} (h : (n + 1, t) ∈ acc) : nd (ndsOf acc) (acc.idxOf (n + 1, t) : Nat) = (15 - (n : Int), rf acc n (t.take (2 ^ n)), rf acc n (t.drop (2 ^ n))) := by
  have hl := List.idxOf_lt_length_iff.2 h
  rw [mk_nd hl, List.getElem_idxOf hl, ndOf_mk]

theorem top_rf {acc : List Key} (n : Nat) : ∀ (t : List Bool), Has acc n t → (16 : Int) - n ≤ top (ndsOf acc) (rf acc n t) := by
  induction n with
  | zero =>
    intro t _
    rw [top_neg (by unfold rf; split <;> omega)]; omega
  | succ n ih =>
    intro t h
    have h' : if t.take (2 ^ n) = t.drop (2 ^ n) then Has acc n (t.take (2 ^ n)) else (n + 1, t) ∈ acc := h
    rw [rf_succ]
    by_cases e : t.take (2 ^ n) = t.drop (2 ^ n)
    · rw [if_pos e] at h' ⊢; have := ih _ h'; omega
    · rw [if_neg e] at h' ⊢
      rw [top_nat, mk_idx h']; simp only; omega

theorem PC.parts {acc : List Key} (p : PC acc) {n : Nat} {t : List Bool} (h : (n + 1, t) ∈ acc) : n + 1 ≤ 16 ∧ t.length = 2 ^ (n + 1) ∧ Has acc n (t.take (2 ^ n)) ∧ Has acc n (t.drop (2 ^ n)) := by
  obtain ⟨i, hi, e⟩ := List.mem_iff_getElem.1 h
  obtain ⟨m, s, q1, q2, q3, q4, q5, q6⟩ := p.each i hi
  rw [e] at q1
  injection q1 with r1 r2
  have r1 : n = m := by omega
  subst r1; subst r2
  have ha : acc = acc.take i ++ acc.drop i := (List.take_append_drop i acc).symm
  refine ⟨q2, q3, ?_, ?_⟩
  · rw [ha]; exact q5.app _ _ _
  · rw [ha]; exact q6.app _ _ _

/-- The table of a finished table's place is that table. -/
theorem tb_rf {acc : List Key} (p : PC acc) (n : Nat) : ∀ (t : List Bool), t.length = 2 ^ n → Has acc n t → tb (ndsOf acc) n (rf acc n t) = t := by
  induction n with
  | zero =>
    intro t hl _
    match t, hl with
    | [b], _ => cases b <;> simp [tb, rf]
  | succ n ih =>
    intro t hl h
    have h' : if t.take (2 ^ n) = t.drop (2 ^ n) then Has acc n (t.take (2 ^ n)) else (n + 1, t) ∈ acc := h
    obtain ⟨h1, h2⟩ := half_len hl
    rw [rf_succ]
    by_cases e : t.take (2 ^ n) = t.drop (2 ^ n)
    · rw [if_pos e] at h' ⊢
      have ht := top_rf n _ h'
      rw [tb_skip (by omega), ih _ h1 h']
      conv => rhs; rw [← List.take_append_drop (2 ^ n) t, ← e]
    · rw [if_neg e] at h' ⊢
      have hp := p.parts h'
      have hx := mk_idx h'
      have ht : (15 : Int) - n = top (ndsOf acc) (acc.idxOf (n + 1, t) : Nat) := by rw [top_nat, hx]
      rw [tb_node ht]
      unfold lo hi
      rw [hx]
      simp only
      rw [ih _ h1 hp.2.2.1, ih _ h2 hp.2.2.2, List.take_append_drop]

theorem rf_take {acc : List Key} {i n : Nat} {t : List Bool} (h : Has (acc.take i) n t) : rf acc n t = rf (acc.take i) n t := by
  have := rf_app (acc.drop i) n t h
  rw [List.take_append_drop] at this
  exact this

theorem PC.ord {acc : List Key} (p : PC acc) : Ord (ndsOf acc) := by
  intro i hi
  rw [mk_length] at hi
  obtain ⟨n, t, q1, q2, q3, q4, q5, q6⟩ := p.each i hi
  have hm : (n + 1, t) ∈ acc := by rw [← q1]; exact List.getElem_mem hi
  have hp := p.parts hm
  have hx : nd (ndsOf acc) i = (15 - (n : Int), rf acc n (t.take (2 ^ n)), rf acc n (t.drop (2 ^ n))) := by rw [mk_nd hi, q1, ndOf_mk]
  have b1 := Has.bound n _ q5
  have b2 := Has.bound n _ q6
  rw [← rf_take q5] at b1
  rw [← rf_take q6] at b2
  have hlen : (acc.take i).length = i := by simp; omega
  rw [hlen] at b1 b2
  have t1 := top_rf n _ hp.2.2.1
  have t2 := top_rf n _ hp.2.2.2
  unfold lo Bd.hi
  rw [hx]
  simp only
  refine ⟨by omega, by omega, b1, b2, by omega, by omega⟩

theorem PC.good {acc : List Key} (p : PC acc) : Good (ndsOf acc) := by
  refine ⟨p.ord, fun i hi => ?_, ?_⟩
  · rw [mk_length] at hi
    obtain ⟨n, t, q1, q2, q3, q4, q5, q6⟩ := p.each i hi
    have hm : (n + 1, t) ∈ acc := by rw [← q1]; exact List.getElem_mem hi
    have hp := p.parts hm
    obtain ⟨h1, h2⟩ := half_len q3
    unfold lo Bd.hi
    rw [mk_nd hi, q1, ndOf_mk]
    simp only
    intro e
    have := tb_rf p n _ h1 hp.2.2.1
    rw [e, tb_rf p n _ h2 hp.2.2.2] at this
    exact q4 this.symm
  · unfold ndsOf
    rw [List.Nodup, List.pairwise_map]
    refine List.Pairwise.imp_of_mem ?_ p.nodup
    intro a b ha hb hne e
    obtain ⟨i, hi, rfl⟩ := List.mem_iff_getElem.1 ha
    obtain ⟨j, hj, rfl⟩ := List.mem_iff_getElem.1 hb
    obtain ⟨n, t, q1, q2, q3, q4, q5, q6⟩ := p.each i hi
    obtain ⟨m, s, r1, r2, r3, r4, r5, r6⟩ := p.each j hj
    have hm : (n + 1, t) ∈ acc := by rw [← q1]; exact ha
    have hm' : (m + 1, s) ∈ acc := by rw [← r1]; exact hb
    have hp := p.parts hm
    have hp' := p.parts hm'
    rw [q1, r1, ndOf_mk, ndOf_mk] at e
    simp only [Prod.mk.injEq] at e
    obtain ⟨e1, e2, e3⟩ := e
    have e1 : n = m := by omega
    subst e1
    obtain ⟨h1, h2⟩ := half_len q3
    obtain ⟨h1', h2'⟩ := half_len r3
    have f1 := tb_rf p n _ h1 hp.2.2.1
    rw [e2, tb_rf p n _ h1' hp'.2.2.1] at f1
    have f2 := tb_rf p n _ h2 hp.2.2.2
    rw [e3, tb_rf p n _ h2' hp'.2.2.2] at f2
    have : t = s := by
      rw [← List.take_append_drop (2 ^ n) t, ← f1, ← f2, List.take_append_drop]
    exact hne (by rw [q1, r1, this])

/-- A key is that of its place. -/
theorem PC.key {acc : List Key} (p : PC acc) {i : Nat} (hi : i < acc.length) : Bd.key (ndsOf acc) i = acc[i] := by
  obtain ⟨n, t, q1, q2, q3, q4, q5, q6⟩ := p.each i hi
  have hm : (n + 1, t) ∈ acc := by rw [← q1]; exact List.getElem_mem hi
  have hx : nd (ndsOf acc) i = (15 - (n : Int), rf acc n (t.take (2 ^ n)), rf acc n (t.drop (2 ^ n))) := by rw [mk_nd hi, q1, ndOf_mk]
  have hl : lev (ndsOf acc) i = n + 1 := by unfold lev; rw [top_nat, hx]; simp only; omega
  unfold Bd.key
  rw [hl, q1]
  congr 1
  have := tb_rf p (n + 1) t q3 (show if t.take (2 ^ n) = t.drop (2 ^ n) then Has acc n (t.take (2 ^ n)) else (n + 1, t) ∈ acc by rw [if_neg q4]; exact hm)
  rw [rf_succ, if_neg q4, ← q1, p.nodup.idxOf_getElem i hi] at this
  exact this

/-! The canonical diagram. -/
theorem cn_pc {T : List Bool} (h : T.length = 65536) : PC (cnAcc T) := PC.dfs 16 T [] (Nat.le_refl _) (by rw [two16]; exact h) PC.nil
theorem cn_good {T : List Bool} (h : T.length = 65536) : Good (cnNodes T) := (cn_pc h).good
theorem cn_ref (T : List Bool) : Ref (cnNodes T) (cnRoot T) := by
  have := Has.bound 16 T (dfs_has 16 T [])
  unfold Ref cnRoot cnAcc
  have hl : (cnNodes T).length = (dfs 16 T []).length := by simp [cnNodes, cnAcc]
  rw [hl]
  exact this
theorem cn_tb {T : List Bool} (h : T.length = 65536) : tb (cnNodes T) 16 (cnRoot T) = T := tb_rf (cn_pc h) 16 T (by rw [two16]; exact h) (dfs_has 16 T [])

theorem ord_first {ns : List Nd} (o : Ord ns) : ∀ k, k ≤ ns.length → firstErr ns k = 0
  | 0, _ => rfl
  | k + 1, hk => by
    rw [firstErr_next (ord_first o k (by omega))]
    obtain ⟨a1, a2, a3, a4, _⟩ := o k (by omega)
    have e : nd ns k = ((nd ns k).1, lo ns k, hi ns k) := rfl
    rw [e]
    exact ndErr_ok (by omega) (by omega)
theorem ord_kids {ns : List Nd} (o : Ord ns) (i : Nat) (hi : i < ns.length) : ¬ kBad ns i := by
  obtain ⟨a1, a2, a3, a4, a5, a6⟩ := o i hi
  rintro (⟨h0, h1⟩ | ⟨h0, h1⟩)
  · unfold top at a5; rw [if_neg (by omega)] at a5; omega
  · unfold top at a6; rw [if_neg (by omega)] at a6; omega

theorem chk_cn {T : List Bool} (h : T.length = 65536) (hl : (cnNodes T).length ≤ 2000) : chk (cnNodes T) (cnRoot T) = 0 := by
  have o := (cn_good h).ord
  rw [chk_last (by omega) (ord_first o _ (Nat.le_refl _)) (ord_kids o) (cn_ref T), cn_tb h, if_pos ⟨rfl, rfl⟩]

/-- What a diagram without fault is. -/
theorem chk_zero {ns : List Nd} {r : Int} (h : chk ns r = 0) : ns.length ≤ 2000 ∧ Ord ns ∧ Ref ns r ∧ cnRoot (tb ns 16 r) = r ∧ cnNodes (tb ns 16 r) = ns := by
  have h1 : ¬ 2000 < ns.length := by intro e; rw [chk_size e] at h; omega
  have h2 : firstErr ns ns.length = 0 := by
    by_cases e : firstErr ns ns.length = 0
    · exact e
    · unfold chk at h; rw [if_neg h1, if_pos e] at h; exact absurd h e
  have h3 : ∀ i : Nat, i < ns.length → ¬ kBad ns i := by
    intro i hi hk
    rw [chk_ord h1 h2 hi hk] at h; omega
  have h4 : Ref ns r := Classical.byContradiction fun e => by rw [chk_ref h1 h2 h3 e] at h; omega
  rw [chk_last h1 h2 h3 h4] at h
  refine ⟨by omega, ord_of h2 h3, h4, ?_⟩
  by_cases e : cnRoot (tb ns 16 r) = r ∧ cnNodes (tb ns 16 r) = ns
  · exact e
  · rw [if_neg e] at h; omega
theorem chk_zero_good {ns : List Nd} {r : Int} (h : chk ns r = 0) : Good ns := by
  obtain ⟨_, _, _, _, e⟩ := chk_zero h
  rw [← e]
  exact cn_good (by rw [tb_length, two16])

end Go.Proofs.Ythhogbligfmpdaa.Bd

/- Plain facts: the reference's check of a diagram says the same. No program in sight. -/
namespace Go.Proofs.Ythhogbligfmpdaa.Bd

/-- The reference's walk: those that are finished, in order; f is above the reference. -/
def numb (ns : List Nd) : Nat → Int → List Int → List Int
  | 0, _, L => L
  | f + 1, r, L => if r < 0 then L else if r ∈ L then L else numb ns f (hi ns r) (numb ns f (lo ns r) L) ++ [r]

theorem numb_neg {ns : List Nd} {f : Nat} {r : Int} {L : List Int} (h : r < 0) : numb ns f r L = L := by
  cases f with
  | zero => rfl
  | succ f => simp only [numb]; rw [if_pos h]
theorem numb_known {ns : List Nd} {f : Nat} {r : Int} {L : List Int} (h : r ∈ L) : numb ns f r L = L := by
  cases f with
  | zero => rfl
  | succ f => simp only [numb]; split <;> rfl
theorem numb_new {ns : List Nd} {f : Nat} {r : Int} {L : List Int} (h : 0 ≤ r) (hn : r ∉ L) : numb ns (f + 1) r L = numb ns f (hi ns r) (numb ns f (lo ns r) L) ++ [r] := by
  simp only [numb]; rw [if_neg (by omega), if_neg hn]

/-- How much longer it may grow. -/
theorem numb_refs {ns : List Nd} (o : Ord ns) (f : Nat) : ∀ (r : Int) (L : List Int), Ref ns r → L.Nodup → (∀ s ∈ L, Ref ns s ∧ 0 ≤ s) → (numb ns f r L).Nodup ∧ (∀ s ∈ numb ns f r L, Ref ns s ∧ 0 ≤ s) ∧ (∀ s ∈ numb ns f r L, s ∈ L ∨ s ≤ r) := by
  induction f with
  | zero => intro r L _ hn hL; exact ⟨hn, hL, fun s hs => Or.inl hs⟩
  | succ f ih =>
    intro r L hr hn hL
    by_cases h0 : r < 0
    · rw [numb_neg h0]; exact ⟨hn, hL, fun s hs => Or.inl hs⟩
    · by_cases hm : r ∈ L
      · rw [numb_known hm]; exact ⟨hn, hL, fun s hs => Or.inl hs⟩
      · rw [numb_new (by omega) hm]
        have a := o.ref_lo hr (by omega)
        have b := o.ref_hi hr (by omega)
        obtain ⟨a1, a2, a3⟩ := ih (lo ns r) L a.1 hn hL
        obtain ⟨b1, b2, b3⟩ := ih (hi ns r) _ b.1 a1 a2
        have hnot : r ∉ numb ns f (hi ns r) (numb ns f (lo ns r) L) := by
          intro hx
          rcases b3 r hx with hx | hx
          · rcases a3 r hx with hx | hx
            · exact hm hx
            · omega
          · omega
        refine ⟨?_, ?_, ?_⟩
        · rw [List.nodup_append]
          refine ⟨b1, by simp, ?_⟩
          intro x hx y hy
          simp at hy; subst hy
          exact fun e => hnot (e ▸ hx)
        · intro s hs
          rcases List.mem_append.1 hs with hs | hs
          · exact b2 s hs
          · simp at hs; subst hs; exact ⟨hr, by omega⟩
        · intro s hs
          rcases List.mem_append.1 hs with hs | hs
          · rcases b3 s hs with hs | hs
            · rcases a3 s hs with hs | hs
              · exact Or.inl hs
              · right; omega
            · right; omega
          · simp at hs; subst hs; right; exact Int.le_refl _

/-- Distinct references from 0 on below n: at most n. -/
theorem len_of_nodup (n : Nat) : ∀ (L : List Int), L.Nodup → (∀ s ∈ L, 0 ≤ s ∧ s < (n : Int)) → L.length ≤ n := by
  induction n with
  | zero =>
    intro L _ h
    cases L with
    | nil => simp
    | cons x L => have := h x List.mem_cons_self; omega
  | succ n ih =>
    intro L hn h
    by_cases hm : (n : Int) ∈ L
    · have h1 := ih (L.erase n) (hn.erase _) (fun s hs => by
        have h2 := (hn.mem_erase_iff).1 hs
        have := h s h2.2
        have := h2.1
        omega)
      rw [List.length_erase_of_mem hm] at h1
      omega
    · have := ih L hn (fun s hs => by
        have h1 := h s hs
        have : s ≠ (n : Int) := fun e => hm (e ▸ hs)
        omega)
      omega

theorem numb_len {ns : List Nd} (o : Ord ns) {f : Nat} {r : Int} (hr : Ref ns r) {L : List Int} (hn : L.Nodup) (hL : ∀ s ∈ L, Ref ns s ∧ 0 ≤ s) : (numb ns f r L).length ≤ ns.length := by
  obtain ⟨a, b, _⟩ := numb_refs o f r L hr hn hL
  exact len_of_nodup _ _ a (fun s hs => ⟨(b s hs).2, (b s hs).1.2⟩)

/-- It is the walk over tables. -/
theorem numb_dfs {ns : List Nd} (g : Good ns) (f : Nat) : ∀ (r : Int) (L : List Int) (O : List Nd), r < f → Ref ns r → WS ns L O → ∃ O', WS ns (numb ns f r L) O' ∧ (numb ns f r L).map (key ns) = dfs 16 (tb ns 16 r) (L.map (key ns)) ∧ (0 ≤ r → r ∉ L → rf ((numb ns f r L).map (key ns)) 16 (tb ns 16 r) = ((numb ns f r L).length : Int) - 1) := by
  induction f with
  | zero =>
    intro r L O hf hr h
    refine ⟨O, h, ?_, fun h0 => by omega⟩
    rw [(dfs_neg (Nat.le_refl _) g.ord hr (by omega) _).1]; rfl
  | succ f ih =>
    intro r L O hf hr h
    by_cases h0 : r < 0
    · rw [numb_neg h0]
      refine ⟨O, h, ?_, fun h0 => by omega⟩
      rw [(dfs_neg (Nat.le_refl _) g.ord hr h0 _).1]
    · by_cases hm : r ∈ L
      · rw [numb_known hm]
        refine ⟨O, h, ?_, fun _ h1 => absurd hm h1⟩
        rw [dfs_known (Nat.le_refl _) g hr (by omega) _ ((mem_key g h.refs hr).2 hm)]
      · rw [numb_new (by omega) hm]
        have a := g.ord.ref_lo hr (by omega)
        have b := g.ord.ref_hi hr (by omega)
        obtain ⟨O1, w1, e1, _⟩ := ih (lo ns r) L O (by omega) a.1 h
        obtain ⟨O2, w2, e2, _⟩ := ih (hi ns r) _ O1 (by omega) b.1 w1
        obtain ⟨_, p2, p3, p4⟩ := WS.push (Nat.le_refl 16) g hr (by omega) hm h.refs h.closed w1 e1 w2 e2
        refine ⟨_, p2, p3, fun _ _ => ?_⟩
        rw [p4]; simp

/-- The numbers 0 .. n - 1. -/
def upto (n : Nat) : List Int := (List.range n).map fun (i : Nat) => (i : Int)
theorem upto_len (n : Nat) : (upto n).length = n := by simp [upto]
theorem upto_get {n i : Nat} (h : i < n) : (upto n)[i]'(by rw [upto_len]; exact h) = (i : Int) := by simp [upto]
theorem upto_idx {n i : Nat} (h : i < n) : (upto n).idxOf (i : Int) = i := by
  have hn : (upto n).Nodup := by
    unfold upto
    rw [List.Nodup, List.pairwise_map]
    refine List.Pairwise.imp ?_ List.nodup_range
    intro a b hne e
    exact hne (by omega)
  have := hn.idxOf_getElem i (by rw [upto_len]; exact h)
  rw [upto_get h] at this
  exact this
theorem eq_upto {n : Nat} {L : List Int} (hl : L.length = n) (h : ∀ i : Nat, i < n → L[i]? = some (i : Int)) : L = upto n := by
  refine List.ext_getElem (by rw [hl, upto_len]) fun i h1 h2 => ?_
  have := h i (by omega)
  rw [List.getElem?_eq_getElem h1] at this
  rw [upto_get (by omega)]
  simpa using this

/-- A good diagram's check. -/
theorem cn_iff {ns : List Nd} (g : Good ns) {r : Int} (hr : Ref ns r) : (cnRoot (tb ns 16 r) = r ∧ cnNodes (tb ns 16 r) = ns) ↔ (if ns = [] then r = -1 ∨ r = -2 else r = (ns.length : Int) - 1 ∧ numb ns ns.length r [] = upto ns.length) := by
  have hT : (tb ns 16 r).length = 65536 := by rw [tb_length, two16]
  by_cases h0 : r < 0
  · have hz := dfs_neg (Nat.le_refl 16) g.ord hr h0 []
    have e1 : cnNodes (tb ns 16 r) = [] := by unfold cnNodes cnAcc; rw [hz.1]; rfl
    have e2 : cnRoot (tb ns 16 r) = r := by unfold cnRoot cnAcc; rw [hz.1, hz.2]
    rw [e1, e2]
    by_cases hn : ns = []
    · rw [if_pos hn]
      have := hr.1
      constructor
      · intro _; omega
      · intro _; exact ⟨rfl, hn.symm⟩
    · rw [if_neg hn]
      have : 0 < ns.length := List.length_pos_iff.2 hn
      constructor
      · intro h; exact absurd h.2.symm hn
      · intro h; omega
  · have hlt := hr.2
    have hn : ns ≠ [] := by intro e; subst e; simp at hlt; omega
    rw [if_neg hn]
    obtain ⟨O, hw, e1, e2⟩ := numb_dfs g ns.length r [] [] hlt hr (WS.nil ns)
    have e3 := e2 (by omega) (by simp)
    have hacc : cnAcc (tb ns 16 r) = (numb ns ns.length r []).map (key ns) := by rw [e1]; rfl
    have hroot : cnRoot (tb ns 16 r) = ((numb ns ns.length r []).length : Int) - 1 := by
      unfold cnRoot; rw [hacc]; exact e3
    generalize numb ns ns.length r [] = L at *
    clear e1 e2 e3
    generalize tb ns 16 r = T at *
    constructor
    · rintro ⟨h1, h2⟩
      have hlen : ns.length = L.length := by rw [← h2]; simp [cnNodes, hacc]
      refine ⟨by rw [← h1, hroot, hlen], eq_upto hlen.symm fun i hi => ?_⟩
      have pc := cn_pc hT
      have hi' : i < (cnAcc T).length := by rw [hacc]; simp; omega
      have k1 := pc.key hi'
      have k2 : ndsOf (cnAcc T) = ns := h2
      rw [k2] at k1
      have hiL : i < L.length := by omega
      have k3 : (cnAcc T)[i] = key ns L[i] := by simp [hacc]
      rw [k3] at k1
      have := key_inj g ⟨by omega, by omega⟩ (hw.refs _ (List.getElem_mem hiL)).1 k1
      rw [List.getElem?_eq_getElem hiL, ← this]
    · rintro ⟨h1, h2⟩
      have hlen : L.length = ns.length := by rw [h2, upto_len]
      refine ⟨by rw [hroot, hlen, h1], ?_⟩
      have hO : cnNodes T = O := by rw [hw.out]; unfold cnNodes; rw [hacc]
      rw [hO]
      have rfi : ∀ s : Int, Ref ns s → rf (L.map (key ns)) 16 (tb ns 16 s) = s := by
        intro s hs
        by_cases hs0 : s < 0
        · exact (dfs_neg (Nat.le_refl 16) g.ord hs hs0 _).2
        · rw [rf_node (Nat.le_refl 16) g hs (by omega), idx_key g hs _ hw.refs, h2]
          obtain ⟨j, rfl⟩ := Int.eq_ofNat_of_zero_le (by omega : 0 ≤ s)
          rw [upto_idx (by have := hs.2; omega)]
      refine List.ext_getElem (by rw [hw.len, hlen]) fun i i1 i2 => ?_
      have hiL : i < L.length := by omega
      have hir : Ref ns (i : Int) := ⟨by omega, by omega⟩
      have hLi : L[i] = (i : Int) := by
        have : L[i]? = (upto ns.length)[i]? := by rw [h2]
        rw [List.getElem?_eq_getElem hiL, List.getElem?_eq_getElem (by rw [upto_len]; omega), upto_get (by omega)] at this
        simpa using this
      have hOi : O[i] = ndOf (L.map (key ns)) (key ns (i : Int)) := by
        simp [hw.out, hLi]
      rw [hOi, ndOf_key (Nat.le_refl 16) g hir (by omega), rfi _ (g.ord.ref_lo hir (by omega)).1, rfi _ (g.ord.ref_hi hir (by omega)).1, ← nd_of_lt i2]
      rfl

/-- A node that is idle, out of order, or there already. -/
def rBad (ns : List Nd) (i : Nat) : Prop := lo ns i = hi ns i ∨ kBad ns i ∨ ∃ k : Nat, k < i ∧ nd ns k = nd ns i

theorem chk_bad {ns : List Nd} {r : Int} (h : ¬ 2000 < ns.length) (h0 : firstErr ns ns.length = 0) {i : Nat} (hi : i < ns.length) (hb : rBad ns i) : chk ns r = 2 := by
  by_cases hz : chk ns r = 0
  · exfalso
    have g := chk_zero_good hz
    rcases hb with hb | hb | ⟨k, hk, e⟩
    · exact g.red i hi hb
    · exact ord_kids g.ord i hi hb
    · have hp := List.pairwise_iff_getElem.1 g.nodup
      rw [nd_of_lt (by omega), nd_of_lt hi] at e
      exact hp k i (by omega) hi hk e
  · have h3 : ¬ firstErr ns ns.length ≠ 0 := by simpa using h0
    unfold chk at hz ⊢
    rw [if_neg h, if_neg h3] at hz ⊢
    split at hz
    · rw [if_pos (by assumption)]
    · rw [if_neg (by assumption)]
      split at hz
      · rw [if_pos (by assumption)]
      · rw [if_neg (by assumption)]
        split at hz
        · exact absurd rfl hz
        · rw [if_neg (by assumption)]

theorem good_of {ns : List Nd} (h0 : firstErr ns ns.length = 0) (hb : ∀ i : Nat, i < ns.length → ¬ rBad ns i) : Good ns := by
  refine ⟨ord_of h0 fun i hi hk => hb i hi (Or.inr (Or.inl hk)), fun i hi e => hb i hi (Or.inl e), ?_⟩
  refine List.pairwise_iff_getElem.2 fun i j hi hj hij e => ?_
  refine hb j hj (Or.inr (Or.inr ⟨i, hij, ?_⟩))
  rw [nd_of_lt hi, nd_of_lt hj]; exact e

open Classical in
theorem chk_good {ns : List Nd} {r : Int} (h : ¬ 2000 < ns.length) (h0 : firstErr ns ns.length = 0) (g : Good ns) (hr : Ref ns r) : chk ns r = if (if ns = [] then r = -1 ∨ r = -2 else r = (ns.length : Int) - 1 ∧ numb ns ns.length r [] = upto ns.length) then 0 else 2 := by
  rw [chk_last h h0 (ord_kids g.ord) hr]
  by_cases e : cnRoot (tb ns 16 r) = r ∧ cnNodes (tb ns 16 r) = ns
  · rw [if_pos e, if_pos ((cn_iff g hr).1 e)]
  · rw [if_neg e, if_neg (fun h => e ((cn_iff g hr).2 h))]

theorem chk_empty_ok {r : Int} (h : r = -1 ∨ r = -2) : chk [] r = 0 := by
  have g : Good [] := ⟨fun i hi => by simp at hi, fun i hi => by simp at hi, List.nodup_nil⟩
  rw [chk_good (by simp) rfl g ⟨by omega, by simp; omega⟩, if_pos (by rw [if_pos rfl]; exact h)]
theorem chk_empty_bad {r : Int} (h : ¬ (r = -1 ∨ r = -2)) : chk [] r = 2 := by
  have g : Good [] := ⟨fun i hi => by simp at hi, fun i hi => by simp at hi, List.nodup_nil⟩
  by_cases hr : Ref [] r
  · rw [chk_good (by simp) rfl g hr, if_neg (by rw [if_pos rfl]; exact h)]
  · exact chk_ref (by simp) rfl (fun i hi => by simp at hi) hr
theorem chk_root_bad {ns : List Nd} {r : Int} (h : ¬ 2000 < ns.length) (h0 : firstErr ns ns.length = 0) (g : Good ns) (hn : ns ≠ []) (hr : r ≠ (ns.length : Int) - 1) : chk ns r = 2 := by
  by_cases hf : Ref ns r
  · rw [chk_good h h0 g hf, if_neg (by rw [if_neg hn]; exact fun e => hr e.1)]
  · exact chk_ref h h0 (ord_kids g.ord) hf
theorem chk_numb_bad {ns : List Nd} {r : Int} (h : ¬ 2000 < ns.length) (h0 : firstErr ns ns.length = 0) (g : Good ns) (hn : ns ≠ []) (hr : r = (ns.length : Int) - 1) (hb : numb ns ns.length r [] ≠ upto ns.length) : chk ns r = 2 := by
  have hp : 0 < ns.length := List.length_pos_iff.2 hn
  rw [chk_good h h0 g ⟨by omega, by omega⟩, if_neg (by rw [if_neg hn]; exact fun e => hb e.2)]
theorem chk_numb_ok {ns : List Nd} {r : Int} (h : ¬ 2000 < ns.length) (h0 : firstErr ns ns.length = 0) (g : Good ns) (hn : ns ≠ []) (hr : r = (ns.length : Int) - 1) (hb : numb ns ns.length r [] = upto ns.length) : chk ns r = 0 := by
  have hp : 0 < ns.length := List.length_pos_iff.2 hn
  rw [chk_good h h0 g ⟨by omega, by omega⟩, if_pos (by rw [if_neg hn]; exact ⟨hr, hb⟩)]

end Go.Proofs.Ythhogbligfmpdaa.Bd

/- Plain facts: the table of a reference, entry by entry; the diagram of the document's example. No program in sight. -/
namespace Go.Proofs.Ythhogbligfmpdaa.Bd

/-- Follow an entry's bits; f is above the reference. -/
def fol (ns : List Nd) : Nat → Int → Nat → Bool
  | 0, r, _ => r == -2
  | f + 1, r, x => if r < 0 then r == -2 else fol ns f (if x.testBit (15 - (nd ns r).1.toNat) then hi ns r else lo ns r) x

theorem fol_neg {ns : List Nd} {f : Nat} {r : Int} {x : Nat} (h : r < 0) : fol ns f r x = (r == -2) := by
  cases f with
  | zero => rfl
  | succ f => simp only [fol]; rw [if_pos h]
theorem fol_pos {ns : List Nd} {f : Nat} {r : Int} {x : Nat} (h : ¬ r < 0) : fol ns (f + 1) r x = fol ns f (if x.testBit (15 - (nd ns r).1.toNat) then hi ns r else lo ns r) x := by
  simp only [fol]; rw [if_neg h]

theorem fol_up {ns : List Nd} (o : Ord ns) {n : Nat} (f : Nat) : ∀ {r : Int} {x : Nat}, Ref ns r → (16 : Int) - n ≤ top ns r → fol ns f r (2 ^ n + x) = fol ns f r x := by
  induction f with
  | zero => intro r x _ _; rfl
  | succ f ih =>
    intro r x hr ht
    by_cases h0 : r < 0
    · rw [fol_neg h0, fol_neg h0]
    · rw [fol_pos h0, fol_pos h0]
      have hl := o.ref_lo hr (by omega)
      have hh := o.ref_hi hr (by omega)
      have tt := o.top_lt hr
      have t2 := tt.2.2 (by omega)
      have te : top ns r = (nd ns r).1 := by unfold top; rw [if_neg h0]
      have hb : (2 ^ n + x).testBit (15 - (nd ns r).1.toNat) = x.testBit (15 - (nd ns r).1.toNat) := Nat.testBit_two_pow_add_gt (by omega) _
      rw [hb]
      split
      · exact ih hh.1 (by omega)
      · exact ih hl.1 (by omega)

theorem tb_fol {ns : List Nd} (o : Ord ns) (n : Nat) : ∀ {f : Nat} {r : Int}, n ≤ 16 → Ref ns r → r < f → (16 : Int) - n ≤ top ns r → tb ns n r = (List.range (2 ^ n)).map (fol ns f r) := by
  induction n with
  | zero =>
    intro f r _ hr hf ht
    have h0 : r < 0 := by
      by_cases h0 : 0 ≤ r
      · have := (o.top_lt hr).2.2 h0; omega
      · omega
    simp [tb, fol_neg h0]
  | succ n ih =>
    intro f r hn hr hf ht
    rw [range_double]
    by_cases e : (15 : Int) - n = top ns r
    · have h0 : ¬ r < 0 := by intro h; rw [top_neg h] at e; omega
      obtain ⟨f', rfl⟩ : ∃ f', f = f' + 1 := ⟨f - 1, by omega⟩
      have hl := o.ref_lo hr (by omega)
      have hh := o.ref_hi hr (by omega)
      have te : top ns r = (nd ns r).1 := by unfold top; rw [if_neg h0]
      have hk : 15 - (nd ns r).1.toNat = n := by omega
      rw [tb_node e, ih (f := f') (by omega) hl.1 (by omega) (by omega), ih (f := f') (by omega) hh.1 (by omega) (by omega)]
      congr 1
      · refine List.map_congr_left fun x hx => ?_
        rw [fol_pos h0, hk, Nat.testBit_lt_two_pow (List.mem_range.1 hx)]
        rfl
      · refine List.map_congr_left fun x hx => ?_
        rw [fol_pos h0, hk, Nat.testBit_two_pow_add_eq, Nat.testBit_lt_two_pow (List.mem_range.1 hx)]
        simp only [Bool.not_false, if_true]
        rw [fol_up o f' hh.1 (by omega)]
    · rw [tb_skip (by omega), ih (by omega) hr hf (by omega)]
      congr 1
      refine List.map_congr_left fun x hx => ?_
      rw [fol_up o f hr (by omega)]

theorem tab_fol {ns : List Nd} (o : Ord ns) {f : Nat} {r : Int} (hr : Ref ns r) (hf : r < f) : tb ns 16 r = tl (fol ns f r) := by
  have := tb_fol o 16 (Nat.le_refl _) hr hf (by have := (o.top_lt hr).1; omega)
  rw [two16] at this
  exact this

/-! The document's example. -/
def exN : List Nd := [(2, -1, -2), (0, -1, 0)]
theorem exN_good : Good exN := by
  refine ⟨?_, ?_, by decide⟩
  · intro i hi
    have : i = 0 ∨ i = 1 := by simp [exN] at hi; omega
    rcases this with rfl | rfl <;> decide
  · intro i hi
    have : i = 0 ∨ i = 1 := by simp [exN] at hi; omega
    rcases this with rfl | rfl <;> decide
theorem exN_ref : Ref exN 1 := ⟨by decide, by decide⟩
theorem exN_chk : chk exN 1 = 0 := by
  have g := exN_good
  exact chk_numb_ok (by decide) (ord_first g.ord _ (Nat.le_refl _)) g (by decide) (by decide) (by decide)
theorem exN_cn : cnRoot (tb exN 16 1) = 1 ∧ cnNodes (tb exN 16 1) = exN := (chk_zero exN_chk).2.2.2

theorem exN_tb : tb exN 16 1 = tl fun x => x.testBit 15 && x.testBit 13 := by
  rw [tab_fol exN_good.ord exN_ref (f := 2) (by decide)]
  refine tl_congr fun x _ => ?_
  simp only [fol, show ¬ (1 : Int) < 0 by decide, if_false, show (nd exN 1).1 = 0 by decide, show hi exN 1 = 0 by decide, show lo exN 1 = -1 by decide]
  cases h : x.testBit (15 - (0 : Int).toNat) with
  | false =>
    have h : x.testBit 15 = false := h
    simp [h]
  | true =>
    have h : x.testBit 15 = true := h
    simp only [if_true, show ¬ (0 : Int) < 0 by decide, if_false, show (nd exN 0).1 = 2 by decide, show hi exN 0 = -2 by decide, show lo exN 0 = -1 by decide, h, Bool.true_and]
    cases h2 : x.testBit (15 - (2 : Int).toNat) with
    | false => have h2 : x.testBit 13 = false := h2
               simp [h2]
    | true => have h2 : x.testBit 13 = true := h2
              simp [h2]

theorem exN_count {c : Nat} (h : CR exN 3 1 0 c) : c = 2 := by
  have o := exN_good.ord
  have a0 : CR exN 3 (0 : Nat) 2 (0 + 2 ^ (3 - 3)) := CR.node o (by decide) (by decide) (CR.neg1 _ _ _) (CR.neg2 _ (by decide) (by decide))
  have a1 : CR exN 3 (0 : Nat) 1 ((0 + 2 ^ (3 - 3)) * 2 ^ (2 - 1)) := a0.up (by decide) (by decide) (by decide)
  have a2 : CR exN 3 (1 : Nat) 0 (0 + (0 + 2 ^ (3 - 3)) * 2 ^ (2 - 1)) := CR.node o (by decide) (by decide) (CR.neg1 _ _ _) a1
  unfold CR at h a2
  have e : c * 2 ^ (16 - 3) = (0 + (0 + 2 ^ (3 - 3)) * 2 ^ (2 - 1)) * 2 ^ (16 - 3) := h.trans a2.symm
  have := Nat.eq_of_mul_eq_mul_right (by decide) e
  simpa using this

end Go.Proofs.Ythhogbligfmpdaa.Bd

namespace Go.Proofs.Ythhogbligfmpdaa
open Bd

/-- The formula of the example. -/
def exF : Fm := .mk 4 0 [.mk 1 0 [], .mk 1 2 []]
theorem exF_ev : tl (evF exF) = tb exN 16 1 := by
  rw [exN_tb]
  refine tl_congr fun x _ => ?_
  simp [exF, evF, evF.evL, opF]

end Go.Proofs.Ythhogbligfmpdaa

/- Plain facts: the assignments that make a reference true, in order. No program in sight. -/
namespace Go.Proofs.Ythhogbligfmpdaa.Bd

/-- The assignments of the last n of so many variables, behind p. -/
def mdl (ds : List Nd) (vars : Nat) : Nat → Int → List Int → List (List Int)
  | 0, k, p => if k = -1 then [] else [p]
  | n + 1, k, p => mdl ds vars n (spl0 ds k ((vars : Int) - (n + 1))) (p ++ [0]) ++ mdl ds vars n (spl1 ds k ((vars : Int) - (n + 1))) (p ++ [1])

theorem spl_neg {ds : List Nd} {k v : Int} (h : k < 0) (hv : v < 16) : spl0 ds k v = k ∧ spl1 ds k v = k := by
  unfold spl0 spl1
  rw [top_neg h, if_neg (by omega), if_neg (by omega)]; exact ⟨rfl, rfl⟩

theorem mdl_false {ds : List Nd} {vars : Nat} (hv : vars ≤ 16) (n : Nat) : ∀ (p : List Int), mdl ds vars n (-1) p = [] := by
  induction n with
  | zero => intro p; simp [mdl]
  | succ n ih =>
    intro p
    have := spl_neg (ds := ds) (k := -1) (v := (vars : Int) - (n + 1)) (by omega) (by omega)
    simp only [mdl]
    rw [this.1, this.2, ih, ih]; rfl

/-- A diagram over the first so many variables. -/
def Over (ds : List Nd) (vars : Nat) : Prop := ∀ i : Nat, i < ds.length → (nd ds i).1 < vars

theorem over_neg {ds : List Nd} {vars : Nat} (o : Over ds vars) {k : Int} (hr : Ref ds k) (ht : (vars : Int) ≤ top ds k) : k < 0 := by
  by_cases h : k < 0
  · exact h
  · obtain ⟨i, rfl⟩ := Int.eq_ofNat_of_zero_le (by omega : 0 ≤ k)
    have := o i (by have := hr.2; omega)
    rw [top_nat] at ht
    omega

theorem tb_split (ds : List Nd) (vars n : Nat) (hn : n + 1 ≤ vars) (hv : vars ≤ 16) (k : Int) : tb ds (16 - vars + (n + 1)) k = tb ds (16 - vars + n) (spl0 ds k ((vars : Int) - (n + 1))) ++ tb ds (16 - vars + n) (spl1 ds k ((vars : Int) - (n + 1))) := by
  rw [show 16 - vars + (n + 1) = (16 - vars + n) + 1 from by omega]
  simp only [tb]
  rw [show (15 : Int) - ((16 - vars + n : Nat) : Int) = (vars : Int) - (n + 1) from by omega]

theorem mdl_tr {ds : List Nd} (o : Ord ds) {vars : Nat} (hv : vars ≤ 16) (ov : Over ds vars) (n : Nat) : ∀ (k : Int) (p : List Int), n ≤ vars → Ref ds k → (vars : Int) - n ≤ top ds k → (mdl ds vars n k p).length * 2 ^ (16 - vars) = tr (tb ds (16 - vars + n) k) := by
  induction n with
  | zero =>
    intro k p _ hr ht
    have hk := over_neg ov hr (by simpa using ht)
    have := hr.1
    rcases (by omega : k = -1 ∨ k = -2) with rfl | rfl
    · rw [Nat.add_zero, tb_const _ (by omega) (by omega)]
      simp [mdl, tr, List.count_replicate]
    · rw [Nat.add_zero, tb_const _ (by omega) (by omega)]
      simp [mdl, tr]
  | succ n ih =>
    intro k p hn hr ht
    have s0 := o.spl0 hr (v := (vars : Int) - (n + 1)) (by omega) (by omega)
    have s1 := o.spl1 hr (v := (vars : Int) - (n + 1)) (by omega) (by omega)
    rw [tb_split ds vars n hn hv, tr_append, ← ih _ (p ++ [0]) (by omega) s0.1 (by omega), ← ih _ (p ++ [1]) (by omega) s1.1 (by omega)]
    simp only [mdl, List.length_append, Nat.add_mul]

/-- Their number. -/
theorem mdl_cr {ds : List Nd} (o : Ord ds) {vars : Nat} (hv : vars ≤ 16) (ov : Over ds vars) {r : Int} (hr : Ref ds r) : CR ds vars r 0 (mdl ds vars vars r []).length := by
  have := mdl_tr o hv ov vars r [] (Nat.le_refl _) hr (by have := (o.top_lt hr).1; omega)
  unfold CR
  rw [this]
  congr 2
  omega
theorem CR.uniq {ds : List Nd} {vars : Nat} {r : Int} {u c d : Nat} (h : CR ds vars r u c) (k : CR ds vars r u d) : c = d := by
  unfold CR at h k
  exact Nat.eq_of_mul_eq_mul_right (Nat.two_pow_pos _) (h.trans k.symm)

/-- The last n bits of a number, the greatest first. -/
def bitsOf : Nat → Nat → List Int
  | 0, _ => []
  | n + 1, j => (((j.testBit n).toNat : Nat) : Int) :: bitsOf n j

theorem bitsOf_len (n j : Nat) : (bitsOf n j).length = n := by
  induction n with
  | zero => rfl
  | succ n ih => simp [bitsOf, ih]
theorem bitsOf_get (n j : Nat) : ∀ v, v < n → (bitsOf n j).getD v 0 = (((j.testBit (n - 1 - v)).toNat : Nat) : Int) := by
  induction n with
  | zero => intro v hv; omega
  | succ n ih =>
    intro v hv
    cases v with
    | zero => simp [bitsOf]
    | succ v =>
      have := ih v (by omega)
      simp only [bitsOf, List.getD_cons_succ]
      rw [this, show n + 1 - 1 - (v + 1) = n - 1 - v from by omega]
theorem bitsOf_up (m n j : Nat) (h : n ≤ m) : bitsOf n (2 ^ m + j) = bitsOf n j := by
  induction n with
  | zero => rfl
  | succ n ih =>
    simp only [bitsOf]
    rw [Nat.testBit_two_pow_add_gt (by omega), ih (by omega)]

theorem mdl_list {ds : List Nd} (o : Ord ds) {vars : Nat} (hv : vars ≤ 16) (ov : Over ds vars) (n : Nat) : ∀ (k : Int) (p : List Int), n ≤ vars → Ref ds k → (vars : Int) - n ≤ top ds k →
    mdl ds vars n k p = ((List.range (2 ^ n)).filter fun j => (tb ds (16 - vars + n) k).getD (j * 2 ^ (16 - vars)) false).map fun j => p ++ bitsOf n j := by
  induction n with
  | zero =>
    intro k p _ hr ht
    have hk := over_neg ov hr (by simpa using ht)
    have := hr.1
    have hp : 0 < 2 ^ (16 - vars) := Nat.two_pow_pos _
    rcases (by omega : k = -1 ∨ k = -2) with rfl | rfl
    · rw [Nat.add_zero, tb_const _ (by omega) (by omega)]
      simp [mdl, bitsOf, List.range_succ, List.getD_eq_getElem?_getD, hp]
    · rw [Nat.add_zero, tb_const _ (by omega) (by omega)]
      simp [mdl, bitsOf, List.range_succ, List.getD_eq_getElem?_getD, hp]
  | succ n ih =>
    intro k p hn hr ht
    have s0 := o.spl0 hr (v := (vars : Int) - (n + 1)) (by omega) (by omega)
    have s1 := o.spl1 hr (v := (vars : Int) - (n + 1)) (by omega) (by omega)
    simp only [mdl]
    rw [ih _ (p ++ [0]) (by omega) s0.1 (by omega), ih _ (p ++ [1]) (by omega) s1.1 (by omega), tb_split ds vars n hn hv]
    have hA : (tb ds (16 - vars + n) (spl0 ds k ((vars : Int) - (n + 1)))).length = 2 ^ n * 2 ^ (16 - vars) := by rw [tb_length, ← Nat.pow_add]; congr 1; omega
    generalize tb ds (16 - vars + n) (spl0 ds k ((vars : Int) - (n + 1))) = A at *
    generalize tb ds (16 - vars + n) (spl1 ds k ((vars : Int) - (n + 1))) = C at *
    have hp : 0 < 2 ^ (16 - vars) := Nat.two_pow_pos _
    rw [Nat.pow_succ, Nat.mul_two, List.range_add, List.filter_append, List.map_append, List.filter_map, List.map_map]
    congr 1
    · have e1 : (List.range (2 ^ n)).filter (fun j => A.getD (j * 2 ^ (16 - vars)) false) = (List.range (2 ^ n)).filter (fun j => (A ++ C).getD (j * 2 ^ (16 - vars)) false) := by
        refine List.filter_congr fun j hj => ?_
        have hj := List.mem_range.1 hj
        have hlt : j * 2 ^ (16 - vars) < A.length := by rw [hA]; exact Nat.mul_lt_mul_of_pos_right hj hp
        rw [List.getD_eq_getElem?_getD, List.getD_eq_getElem?_getD, List.getElem?_append_left hlt]
      rw [e1]
      refine List.map_congr_left fun j hj => ?_
      have hj := List.mem_range.1 (List.mem_filter.1 hj).1
      simp [bitsOf, Nat.testBit_lt_two_pow hj]
    · have e1 : (List.range (2 ^ n)).filter (fun j => C.getD (j * 2 ^ (16 - vars)) false) = (List.range (2 ^ n)).filter ((fun j => (A ++ C).getD (j * 2 ^ (16 - vars)) false) ∘ fun x => 2 ^ n + x) := by
        refine List.filter_congr fun j hj => ?_
        simp only [Function.comp]
        rw [Nat.add_mul, List.getD_eq_getElem?_getD, List.getD_eq_getElem?_getD, List.getElem?_append_right (by rw [hA]; omega), hA]
        congr 2
        omega
      rw [e1]
      refine List.map_congr_left fun j hj => ?_
      have hj := List.mem_range.1 (List.mem_filter.1 hj).1
      simp [Function.comp, bitsOf, Nat.testBit_two_pow_add_eq, Nat.testBit_lt_two_pow hj, bitsOf_up n n j (Nat.le_refl _)]

/-- The entries at which a table over the first so many variables is true. -/
def hits (T : List Bool) (vars n : Nat) : List Nat := (List.range n).filter fun j => T.getD (j * 2 ^ (16 - vars)) false
theorem mdl_hits {ds : List Nd} (o : Ord ds) {vars : Nat} (hv : vars ≤ 16) (ov : Over ds vars) {r : Int} (hr : Ref ds r) : mdl ds vars vars r [] = (hits (tb ds 16 r) vars (2 ^ vars)).map (bitsOf vars) := by
  have := mdl_list o hv ov vars r [] (Nat.le_refl _) hr (by have := (o.top_lt hr).1; omega)
  rw [this, show 16 - vars + vars = 16 from by omega]
  simp [hits]
theorem hits_succ (T : List Bool) (vars n : Nat) : hits T vars (n + 1) = hits T vars n ++ (if T.getD (n * 2 ^ (16 - vars)) false then [n] else []) := by
  unfold hits
  rw [List.range_succ, List.filter_append]
  congr 1
  rw [List.filter_cons, List.filter_nil]

end Go.Proofs.Ythhogbligfmpdaa.Bd

/- Plain facts: the diagram of a function of the first so many variables tests no others; counts of a function and its negation. No program in sight. -/
namespace Go.Proofs.Ythhogbligfmpdaa.Bd

/-- A table that does not hang on its last q variables. -/
def Cst (q : Nat) : Nat → List Bool → Prop
  | 0, _ => True
  | n + 1, t => if n + 1 ≤ q then unif t = true else Cst q n (t.take (2 ^ n)) ∧ Cst q n (t.drop (2 ^ n))

theorem tb_cst {ds : List Nd} (o : Ord ds) {vars : Nat} (hv : vars ≤ 16) (ov : Over ds vars) (n : Nat) : ∀ {r : Int}, n ≤ 16 → Ref ds r → (16 : Int) - n ≤ top ds r → Cst (16 - vars) n (tb ds n r) := by
  induction n with
  | zero => intro r _ _ _; trivial
  | succ n ih =>
    intro r hn hr ht
    unfold Cst
    by_cases hq : n + 1 ≤ 16 - vars
    · rw [if_pos hq]
      have := over_neg ov hr (by omega)
      rw [tb_const _ hn this]
      exact rep_unif _ _
    · rw [if_neg hq]
      have s0 := o.spl0 hr (v := 15 - (n : Int)) (by omega) (by omega)
      have s1 := o.spl1 hr (v := 15 - (n : Int)) (by omega) (by omega)
      simp only [tb]
      rw [take_tb, drop_tb]
      exact ⟨ih (by omega) s0.1 (by omega), ih (by omega) s1.1 (by omega)⟩

theorem cst_map {q : Nat} (g : Bool → Bool) (n : Nat) : ∀ {t : List Bool}, Cst q n t → Cst q n (t.map g) := by
  induction n with
  | zero => intro t _; trivial
  | succ n ih =>
    intro t h
    unfold Cst at h ⊢
    by_cases hq : n + 1 ≤ q
    · rw [if_pos hq] at h ⊢
      have e := unif_rep h
      rw [e, List.map_replicate]
      exact rep_unif _ _
    · rw [if_neg hq] at h ⊢
      rw [← List.map_take, ← List.map_drop]
      exact ⟨ih h.1, ih h.2⟩

theorem cst_dfs {q : Nat} (n : Nat) : ∀ {t : List Bool} {acc : List Key}, t.length = 2 ^ n → Cst q n t → ∀ k ∈ dfs n t acc, k ∈ acc ∨ q < k.1 := by
  induction n with
  | zero => intro t acc _ _ k hk; exact Or.inl hk
  | succ n ih =>
    intro t acc hl h k hk
    obtain ⟨h1, h2⟩ := half_len hl
    unfold Cst at h
    by_cases hq : n + 1 ≤ q
    · rw [if_pos hq] at h
      rw [(dfs_unif hl h acc).1] at hk
      exact Or.inl hk
    · rw [if_neg hq] at h
      rw [dfs_succ] at hk
      split at hk
      · exact ih h1 h.1 k hk
      · split at hk
        · exact Or.inl hk
        · rcases List.mem_append.1 hk with hk | hk
          · rcases ih h2 h.2 k hk with hk | hk
            · exact ih h1 h.1 k hk
            · exact Or.inr hk
          · simp only [List.mem_cons, List.not_mem_nil, or_false] at hk
            subst hk
            right
            show q < n + 1
            omega

theorem cn_over {T : List Bool} (hT : T.length = 65536) {vars : Nat} (hv : vars ≤ 16) (h : Cst (16 - vars) 16 T) : Over (cnNodes T) vars := by
  intro i hi
  have hl : (cnNodes T).length = (cnAcc T).length := by simp [cnNodes]
  have hi' : i < (cnAcc T).length := by omega
  obtain ⟨n, t, q1, q2, q3, _⟩ := (cn_pc hT).each i hi'
  have hk := cst_dfs 16 (by rw [two16]; exact hT) h (cnAcc T)[i] (List.getElem_mem hi')
  have e : nd (cnNodes T) i = ndOf (cnAcc T) (cnAcc T)[i] := mk_nd hi'
  rw [e, q1, ndOf_mk]
  rw [q1] at hk
  simp only [List.not_mem_nil, false_or] at hk
  show (15 : Int) - n < vars
  omega

theorem tl_not {T : List Bool} (f : Nat → Bool) (h : tl f = T) : (tl fun x => !f x) = T.map (!·) := by
  rw [← h]
  unfold tl
  rw [List.map_map]
  rfl
theorem tr_not (T : List Bool) : tr T + tr (T.map (!·)) = T.length := by
  induction T with
  | nil => rfl
  | cons b T ih => cases b <;> simp [tr] at * <;> omega

/-- A function and its negation are true for all assignments together. -/
theorem cr_sum {ds bs : List Nd} {vars c d : Nat} {r s : Int} (hv : vars ≤ 16) (h : CR ds vars r 0 c) (k : CR bs vars s 0 d) (ht : tb bs 16 s = (tb ds 16 r).map (!·)) : c + d = 2 ^ vars := by
  unfold CR at h k
  rw [show (16 : Nat) - 0 = 16 from rfl] at h k
  rw [ht] at k
  have e := tr_not (tb ds 16 r)
  rw [← h, ← k, tb_length, ← Nat.add_mul] at e
  have e2 : (2 : Nat) ^ 16 = 2 ^ vars * 2 ^ (16 - vars) := by rw [← Nat.pow_add]; congr 1; omega
  rw [e2] at e
  exact Nat.eq_of_mul_eq_mul_right (Nat.two_pow_pos _) e

end Go.Proofs.Ythhogbligfmpdaa.Bd
