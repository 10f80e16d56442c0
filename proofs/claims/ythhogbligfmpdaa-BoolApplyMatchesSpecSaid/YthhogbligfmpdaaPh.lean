/- Plain facts: the canonical diagram of a table is in order, reduced, and has that table. No program in sight. -/
import Derived.Test.YthhogbligfmpdaaPg
set_option linter.unusedVariables false
set_option linter.unusedSimpArgs false
namespace Go.Proofs.Ythhogbligfmpdaa.Bd

/-- Finished nodes: each is a true node of a table of its level, behind its parts; none is there twice. -/
structure PC (acc : List Key) : Prop where
  nodup : acc.Nodup
  each : ∀ (i : Nat) (h : i < acc.length), ∃ n t, acc[i] = (n + 1, t) ∧ n + 1 ≤ 16 ∧ t.length = 2 ^ (n + 1) ∧ t.take (2 ^ n) ≠ t.drop (2 ^ n) ∧ Has (acc.take i) n (t.take (2 ^ n)) ∧ Has (acc.take i) n (t.drop (2 ^ n))

theorem PC.nil : PC [] := ⟨List.nodup_nil, fun i h => by simp at h⟩

theorem dfs_new {n : Nat} {t a b : List Bool} {acc : List Key} (hm : (n + 1, t) ∉ acc) : (n + 1, t) ∉ dfs n a (dfs n b acc) := by
  intro hx
  rcases dfs_lev _ _ _ _ hx with hx | hx
  · rcases dfs_lev _ _ _ _ hx with hx | hx
    · exact hm hx
    · simp at hx; omega
  · simp at hx; omega

theorem PC.dfs (n : Nat) : ∀ (t : List Bool) (acc : List Key), n ≤ 16 → t.length = 2 ^ n → PC acc → PC (Bd.dfs n t acc) := by
  induction n with
  | zero => intro t acc _ _ h; exact h
  | succ n ih =>
    intro t acc hn hl h
    obtain ⟨h1, h2⟩ := half_len hl
    rw [dfs_succ]
    by_cases e : t.take (2 ^ n) = t.drop (2 ^ n)
    · rw [if_pos e]; exact ih _ _ (by omega) h1 h
    · rw [if_neg e]
      by_cases hm : (n + 1, t) ∈ acc
      · rw [if_pos hm]; exact h
      · rw [if_neg hm]
        have p1 := ih (t.take (2 ^ n)) acc (by omega) h1 h
        have p2 := ih (t.drop (2 ^ n)) _ (by omega) h2 p1
        have a1 := dfs_has n (t.take (2 ^ n)) acc
        have a2 := dfs_has n (t.drop (2 ^ n)) (Bd.dfs n (t.take (2 ^ n)) acc)
        obtain ⟨l2, e2⟩ := dfs_app n (t.drop (2 ^ n)) (Bd.dfs n (t.take (2 ^ n)) acc)
        have a3 : Has (Bd.dfs n (t.drop (2 ^ n)) (Bd.dfs n (t.take (2 ^ n)) acc)) n (t.take (2 ^ n)) := by rw [e2]; exact a1.app _ _ _
        have hnew := dfs_new (a := t.drop (2 ^ n)) (b := t.take (2 ^ n)) hm
        generalize Bd.dfs n (t.drop (2 ^ n)) (Bd.dfs n (t.take (2 ^ n)) acc) = A at *
        refine ⟨?_, fun i hi => ?_⟩
        · rw [List.nodup_append]
          refine ⟨p2.nodup, by simp, ?_⟩
          intro x hx y hy
          simp at hy; subst hy
          exact fun e => hnew (e ▸ hx)
        · by_cases hlt : i < A.length
          · obtain ⟨m, s, q1, q2, q3, q4, q5, q6⟩ := p2.each i hlt
            have ht : (A ++ [(n + 1, t)]).take i = A.take i := List.take_append_of_le_length (by omega)
            rw [ht]
            refine ⟨m, s, ?_, q2, q3, q4, q5, q6⟩
            rw [List.getElem_append_left hlt]; exact q1
          · have hi' : i = A.length := by simp at hi; omega
            subst hi'
            have ht : (A ++ [(n + 1, t)]).take A.length = A := by simp
            rw [ht]
            refine ⟨n, t, by simp, hn, hl, e, a3, a2⟩

theorem Has.bound {acc : List Key} (n : Nat) : ∀ (t : List Bool), Has acc n t → -2 ≤ rf acc n t ∧ rf acc n t < acc.length := by
  induction n with
  | zero => intro t _; unfold rf; split <;> omega
  | succ n ih =>
    intro t h
    have h' : if t.take (2 ^ n) = t.drop (2 ^ n) then Has acc n (t.take (2 ^ n)) else (n + 1, t) ∈ acc := h
    rw [rf_succ]
    by_cases e : t.take (2 ^ n) = t.drop (2 ^ n)
    · rw [if_pos e] at h' ⊢; exact ih _ h'
    · rw [if_neg e] at h' ⊢
      have := List.idxOf_lt_length_iff.2 h'
      omega

/-- The nodes of finished keys. -/
def ndsOf (acc : List Key) : List Nd := acc.map (ndOf acc)
theorem mk_length (acc : List Key) : (ndsOf acc).length = acc.length := by simp [ndsOf]
theorem mk_nd {acc : List Key} {i : Nat} (h : i < acc.length) : nd (ndsOf acc) i = ndOf acc acc[i] := by
  rw [nd_of_lt (by rw [mk_length]; exact h)]
  simp [ndsOf]
theorem ndOf_mk (acc : List Key) (n : Nat) (t : List Bool) : ndOf acc (n + 1, t) = (15 - (n : Int), rf acc n (t.take (2 ^ n)), rf acc n (t.drop (2 ^ n))) := by
  simp only [ndOf, Nat.add_sub_cancel, Prod.mk.injEq, and_true]
  omega

theorem mk_idx {acc : List Key} {n : Nat} {t : List Bool} (h : (n + 1, t) ∈ acc) : nd (ndsOf acc) (acc.idxOf (n + 1, t) : Nat) = (15 - (n : Int), rf acc n (t.take (2 ^ n)), rf acc n (t.drop (2 ^ n))) := by
  have hl := List.idxOf_lt_length_iff.2 h
  rw [mk_nd hl, List.getElem_idxOf hl, ndOf_mk]

theorem top_rf {acc : List Key} (n : Nat) : ∀ (t : List Bool), Has acc n t → (16 : Int) - n ≤ top (ndsOf acc) (rf acc n t) := by
  induction n with
  | zero =>
    intro t _
    rw [top_neg (by unfold rf; split <;> omega)]; omega
  | succ n ih =>
    intro t h
    have h' : if t.take (2 ^ n) = t.drop (2 ^ n) then Has acc n (t.take (2 ^ n)) else (n + 1, t) ∈ acc := h
    rw [rf_succ]
    by_cases e : t.take (2 ^ n) = t.drop (2 ^ n)
    · rw [if_pos e] at h' ⊢; have := ih _ h'; omega
    · rw [if_neg e] at h' ⊢
      rw [top_nat, mk_idx h']; simp only; omega

theorem PC.parts {acc : List Key} (p : PC acc) {n : Nat} {t : List Bool} (h : (n + 1, t) ∈ acc) : n + 1 ≤ 16 ∧ t.length = 2 ^ (n + 1) ∧ Has acc n (t.take (2 ^ n)) ∧ Has acc n (t.drop (2 ^ n)) := by
  obtain ⟨i, hi, e⟩ := List.mem_iff_getElem.1 h
  obtain ⟨m, s, q1, q2, q3, q4, q5, q6⟩ := p.each i hi
  rw [e] at q1
  injection q1 with r1 r2
  have r1 : n = m := by omega
  subst r1; subst r2
  have ha : acc = acc.take i ++ acc.drop i := (List.take_append_drop i acc).symm
  refine ⟨q2, q3, ?_, ?_⟩
  · rw [ha]; exact q5.app _ _ _
  · rw [ha]; exact q6.app _ _ _

/-- The table of a finished table's place is that table. -/
theorem tb_rf {acc : List Key} (p : PC acc) (n : Nat) : ∀ (t : List Bool), t.length = 2 ^ n → Has acc n t → tb (ndsOf acc) n (rf acc n t) = t := by
  induction n with
  | zero =>
    intro t hl _
    match t, hl with
    | [b], _ => cases b <;> simp [tb, rf]
  | succ n ih =>
    intro t hl h
    have h' : if t.take (2 ^ n) = t.drop (2 ^ n) then Has acc n (t.take (2 ^ n)) else (n + 1, t) ∈ acc := h
    obtain ⟨h1, h2⟩ := half_len hl
    rw [rf_succ]
    by_cases e : t.take (2 ^ n) = t.drop (2 ^ n)
    · rw [if_pos e] at h' ⊢
      have ht := top_rf n _ h'
      rw [tb_skip (by omega), ih _ h1 h']
      conv => rhs; rw [← List.take_append_drop (2 ^ n) t, ← e]
    · rw [if_neg e] at h' ⊢
      have hp := p.parts h'
      have hx := mk_idx h'
      have ht : (15 : Int) - n = top (ndsOf acc) (acc.idxOf (n + 1, t) : Nat) := by rw [top_nat, hx]
      rw [tb_node ht]
      unfold lo hi
      rw [hx]
      simp only
      rw [ih _ h1 hp.2.2.1, ih _ h2 hp.2.2.2, List.take_append_drop]

theorem rf_take {acc : List Key} {i n : Nat} {t : List Bool} (h : Has (acc.take i) n t) : rf acc n t = rf (acc.take i) n t := by
  have := rf_app (acc.drop i) n t h
  rw [List.take_append_drop] at this
  exact this

theorem PC.ord {acc : List Key} (p : PC acc) : Ord (ndsOf acc) := by
  intro i hi
  rw [mk_length] at hi
  obtain ⟨n, t, q1, q2, q3, q4, q5, q6⟩ := p.each i hi
  have hm : (n + 1, t) ∈ acc := by rw [← q1]; exact List.getElem_mem hi
  have hp := p.parts hm
  have hx : nd (ndsOf acc) i = (15 - (n : Int), rf acc n (t.take (2 ^ n)), rf acc n (t.drop (2 ^ n))) := by rw [mk_nd hi, q1, ndOf_mk]
  have b1 := Has.bound n _ q5
  have b2 := Has.bound n _ q6
  rw [← rf_take q5] at b1
  rw [← rf_take q6] at b2
  have hlen : (acc.take i).length = i := by simp; omega
  rw [hlen] at b1 b2
  have t1 := top_rf n _ hp.2.2.1
  have t2 := top_rf n _ hp.2.2.2
  unfold lo Bd.hi
  rw [hx]
  simp only
  refine ⟨by omega, by omega, b1, b2, by omega, by omega⟩

theorem PC.good {acc : List Key} (p : PC acc) : Good (ndsOf acc) := by
  refine ⟨p.ord, fun i hi => ?_, ?_⟩
  · rw [mk_length] at hi
    obtain ⟨n, t, q1, q2, q3, q4, q5, q6⟩ := p.each i hi
    have hm : (n + 1, t) ∈ acc := by rw [← q1]; exact List.getElem_mem hi
    have hp := p.parts hm
    obtain ⟨h1, h2⟩ := half_len q3
    unfold lo Bd.hi
    rw [mk_nd hi, q1, ndOf_mk]
    simp only
    intro e
    have := tb_rf p n _ h1 hp.2.2.1
    rw [e, tb_rf p n _ h2 hp.2.2.2] at this
    exact q4 this.symm
  · unfold ndsOf
    rw [List.Nodup, List.pairwise_map]
    refine List.Pairwise.imp_of_mem ?_ p.nodup
    intro a b ha hb hne e
    obtain ⟨i, hi, rfl⟩ := List.mem_iff_getElem.1 ha
    obtain ⟨j, hj, rfl⟩ := List.mem_iff_getElem.1 hb
    obtain ⟨n, t, q1, q2, q3, q4, q5, q6⟩ := p.each i hi
    obtain ⟨m, s, r1, r2, r3, r4, r5, r6⟩ := p.each j hj
    have hm : (n + 1, t) ∈ acc := by rw [← q1]; exact ha
    have hm' : (m + 1, s) ∈ acc := by rw [← r1]; exact hb
    have hp := p.parts hm
    have hp' := p.parts hm'
    rw [q1, r1, ndOf_mk, ndOf_mk] at e
    simp only [Prod.mk.injEq] at e
    obtain ⟨e1, e2, e3⟩ := e
    have e1 : n = m := by omega
    subst e1
    obtain ⟨h1, h2⟩ := half_len q3
    obtain ⟨h1', h2'⟩ := half_len r3
    have f1 := tb_rf p n _ h1 hp.2.2.1
    rw [e2, tb_rf p n _ h1' hp'.2.2.1] at f1
    have f2 := tb_rf p n _ h2 hp.2.2.2
    rw [e3, tb_rf p n _ h2' hp'.2.2.2] at f2
    have : t = s := by
      rw [← List.take_append_drop (2 ^ n) t, ← f1, ← f2, List.take_append_drop]
    exact hne (by rw [q1, r1, this])

/-- A key is that of its place. -/
theorem PC.key {acc : List Key} (p : PC acc) {i : Nat} (hi : i < acc.length) : Bd.key (ndsOf acc) i = acc[i] := by
  obtain ⟨n, t, q1, q2, q3, q4, q5, q6⟩ := p.each i hi
  have hm : (n + 1, t) ∈ acc := by rw [← q1]; exact List.getElem_mem hi
  have hx : nd (ndsOf acc) i = (15 - (n : Int), rf acc n (t.take (2 ^ n)), rf acc n (t.drop (2 ^ n))) := by rw [mk_nd hi, q1, ndOf_mk]
  have hl : lev (ndsOf acc) i = n + 1 := by unfold lev; rw [top_nat, hx]; simp only; omega
  unfold Bd.key
  rw [hl, q1]
  congr 1
  have := tb_rf p (n + 1) t q3 (show if t.take (2 ^ n) = t.drop (2 ^ n) then Has acc n (t.take (2 ^ n)) else (n + 1, t) ∈ acc by rw [if_neg q4]; exact hm)
  rw [rf_succ, if_neg q4, ← q1, p.nodup.idxOf_getElem i hi] at this
  exact this

/-! The canonical diagram. -/
theorem cn_pc {T : List Bool} (h : T.length = 65536) : PC (cnAcc T) := PC.dfs 16 T [] (Nat.le_refl _) (by rw [two16]; exact h) PC.nil
theorem cn_good {T : List Bool} (h : T.length = 65536) : Good (cnNodes T) := (cn_pc h).good
theorem cn_ref (T : List Bool) : Ref (cnNodes T) (cnRoot T) := by
  have := Has.bound 16 T (dfs_has 16 T [])
  unfold Ref cnRoot cnAcc
  have hl : (cnNodes T).length = (dfs 16 T []).length := by simp [cnNodes, cnAcc]
  rw [hl]
  exact this
theorem cn_tb {T : List Bool} (h : T.length = 65536) : tb (cnNodes T) 16 (cnRoot T) = T := tb_rf (cn_pc h) 16 T (by rw [two16]; exact h) (dfs_has 16 T [])

theorem ord_first {ns : List Nd} (o : Ord ns) : ∀ k, k ≤ ns.length → firstErr ns k = 0
  | 0, _ => rfl
  | k + 1, hk => by
    rw [firstErr_next (ord_first o k (by omega))]
    obtain ⟨a1, a2, a3, a4, _⟩ := o k (by omega)
    have e : nd ns k = ((nd ns k).1, lo ns k, hi ns k) := rfl
    rw [e]
    exact ndErr_ok (by omega) (by omega)
theorem ord_kids {ns : List Nd} (o : Ord ns) (i : Nat) (hi : i < ns.length) : ¬ kBad ns i := by
  obtain ⟨a1, a2, a3, a4, a5, a6⟩ := o i hi
  rintro (⟨h0, h1⟩ | ⟨h0, h1⟩)
  · unfold top at a5; rw [if_neg (by omega)] at a5; omega
  · unfold top at a6; rw [if_neg (by omega)] at a6; omega

theorem chk_cn {T : List Bool} (h : T.length = 65536) (hl : (cnNodes T).length ≤ 2000) : chk (cnNodes T) (cnRoot T) = 0 := by
  have o := (cn_good h).ord
  rw [chk_last (by omega) (ord_first o _ (Nat.le_refl _)) (ord_kids o) (cn_ref T), cn_tb h, if_pos ⟨rfl, rfl⟩]

/-- What a diagram without fault is. -/
theorem chk_zero {ns : List Nd} {r : Int} (h : chk ns r = 0) : ns.length ≤ 2000 ∧ Ord ns ∧ Ref ns r ∧ cnRoot (tb ns 16 r) = r ∧ cnNodes (tb ns 16 r) = ns := by
  have h1 : ¬ 2000 < ns.length := by intro e; rw [chk_size e] at h; omega
  have h2 : firstErr ns ns.length = 0 := by
    by_cases e : firstErr ns ns.length = 0
    · exact e
    · unfold chk at h; rw [if_neg h1, if_pos e] at h; exact absurd h e
  have h3 : ∀ i : Nat, i < ns.length → ¬ kBad ns i := by
    intro i hi hk
    rw [chk_ord h1 h2 hi hk] at h; omega
  have h4 : Ref ns r := Classical.byContradiction fun e => by rw [chk_ref h1 h2 h3 e] at h; omega
  rw [chk_last h1 h2 h3 h4] at h
  refine ⟨by omega, ord_of h2 h3, h4, ?_⟩
  by_cases e : cnRoot (tb ns 16 r) = r ∧ cnNodes (tb ns 16 r) = ns
  · exact e
  · rw [if_neg e] at h; omega
theorem chk_zero_good {ns : List Nd} {r : Int} (h : chk ns r = 0) : Good ns := by
  obtain ⟨_, _, _, _, e⟩ := chk_zero h
  rw [← e]
  exact cn_good (by rw [tb_length, two16])

end Go.Proofs.Ythhogbligfmpdaa.Bd
