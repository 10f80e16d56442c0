/- Plain facts: the canonical diagram of a table, and a walk over nodes that yields it. No program in sight. -/
import Derived.Test.YthhogbligfmpdaaPc
set_option linter.unusedVariables false
set_option linter.unusedSimpArgs false
namespace Go.Proofs.Ythhogbligfmpdaa.Bd

abbrev Key := Nat × List Bool

/-- The nodes of a table over n variables, in the order in which a walk finishes them. -/
def dfs : Nat → List Bool → List Key → List Key
  | 0, _, acc => acc
  | n + 1, t, acc =>
    if t.take (2 ^ n) = t.drop (2 ^ n) then dfs n (t.take (2 ^ n)) acc
    else if (n + 1, t) ∈ acc then acc
    else dfs n (t.drop (2 ^ n)) (dfs n (t.take (2 ^ n)) acc) ++ [(n + 1, t)]

/-- The place of a table among finished nodes; -1, -2 for the constants. -/
def rf (acc : List Key) : Nat → List Bool → Int
  | 0, t => if t = [true] then -2 else -1
  | n + 1, t => if t.take (2 ^ n) = t.drop (2 ^ n) then rf acc n (t.take (2 ^ n)) else (acc.idxOf (n + 1, t) : Int)

def ndOf (acc : List Key) (k : Key) : Nd := (16 - (k.1 : Int), rf acc (k.1 - 1) (k.2.take (2 ^ (k.1 - 1))), rf acc (k.1 - 1) (k.2.drop (2 ^ (k.1 - 1))))

/-- The canonical diagram of a table. -/
def cnAcc (t : List Bool) : List Key := dfs 16 t []
def cnNodes (t : List Bool) : List Nd := (cnAcc t).map (ndOf (cnAcc t))
def cnRoot (t : List Bool) : Int := rf (cnAcc t) 16 t

theorem dfs_succ (n : Nat) (t : List Bool) (acc : List Key) : dfs (n + 1) t acc = if t.take (2 ^ n) = t.drop (2 ^ n) then dfs n (t.take (2 ^ n)) acc
    else if (n + 1, t) ∈ acc then acc else dfs n (t.drop (2 ^ n)) (dfs n (t.take (2 ^ n)) acc) ++ [(n + 1, t)] := rfl
theorem rf_succ (acc : List Key) (n : Nat) (t : List Bool) : rf acc (n + 1) t = if t.take (2 ^ n) = t.drop (2 ^ n) then rf acc n (t.take (2 ^ n)) else (acc.idxOf (n + 1, t) : Int) := rfl

theorem dfs_app (n : Nat) : ∀ (t : List Bool) (acc : List Key), ∃ l, dfs n t acc = acc ++ l := by
  induction n with
  | zero => intro t acc; exact ⟨[], by simp [dfs]⟩
  | succ n ih =>
    intro t acc
    unfold dfs
    split
    · exact ih _ _
    · split
      · exact ⟨[], by simp⟩
      · obtain ⟨l1, e1⟩ := ih (t.take (2 ^ n)) acc
        obtain ⟨l2, e2⟩ := ih (t.drop (2 ^ n)) (dfs n (t.take (2 ^ n)) acc)
        exact ⟨l1 ++ l2 ++ [(n + 1, t)], by rw [e2, e1]; simp⟩

/-- The reduced node of a table is among those that are finished. -/
def Has (acc : List Key) : Nat → List Bool → Prop
  | 0, _ => True
  | n + 1, t => if t.take (2 ^ n) = t.drop (2 ^ n) then Has acc n (t.take (2 ^ n)) else (n + 1, t) ∈ acc

theorem dfs_has (n : Nat) : ∀ (t : List Bool) (acc : List Key), Has (dfs n t acc) n t := by
  induction n with
  | zero => intro t acc; trivial
  | succ n ih =>
    intro t acc
    unfold Has dfs
    by_cases h : t.take (2 ^ n) = t.drop (2 ^ n)
    · rw [if_pos h, if_pos h]; exact ih _ _
    · rw [if_neg h, if_neg h]
      split
      · assumption
      · simp

theorem Has.app {acc : List Key} (l : List Key) (n : Nat) : ∀ (t : List Bool), Has acc n t → Has (acc ++ l) n t := by
  induction n with
  | zero => intro t _; trivial
  | succ n ih =>
    intro t h
    have h' : if t.take (2 ^ n) = t.drop (2 ^ n) then Has acc n (t.take (2 ^ n)) else (n + 1, t) ∈ acc := h
    show if t.take (2 ^ n) = t.drop (2 ^ n) then Has (acc ++ l) n (t.take (2 ^ n)) else (n + 1, t) ∈ acc ++ l
    by_cases e : t.take (2 ^ n) = t.drop (2 ^ n)
    · rw [if_pos e] at h' ⊢; exact ih _ h'
    · rw [if_neg e] at h' ⊢; exact List.mem_append_left _ h'

theorem rf_app {acc : List Key} (l : List Key) (n : Nat) : ∀ (t : List Bool), Has acc n t → rf (acc ++ l) n t = rf acc n t := by
  induction n with
  | zero => intro t _; rfl
  | succ n ih =>
    intro t h
    have h' : if t.take (2 ^ n) = t.drop (2 ^ n) then Has acc n (t.take (2 ^ n)) else (n + 1, t) ∈ acc := h
    rw [rf_succ, rf_succ]
    by_cases e : t.take (2 ^ n) = t.drop (2 ^ n)
    · rw [if_pos e] at h'; rw [if_pos e, if_pos e]; exact ih _ h'
    · rw [if_neg e] at h'; rw [if_neg e, if_neg e, List.idxOf_append, if_pos h']

/-- Each finished node's parts are finished. -/
def Closed (acc : List Key) : Prop := ∀ k ∈ acc, 1 ≤ k.1 ∧ Has acc (k.1 - 1) (k.2.take (2 ^ (k.1 - 1))) ∧ Has acc (k.1 - 1) (k.2.drop (2 ^ (k.1 - 1)))

theorem Closed.ndOf_app {acc : List Key} (h : Closed acc) (l : List Key) {k : Key} (hk : k ∈ acc) : ndOf (acc ++ l) k = ndOf acc k := by
  obtain ⟨_, h1, h2⟩ := h k hk
  simp only [ndOf]
  rw [rf_app l _ _ h1, rf_app l _ _ h2]

theorem Closed.dfs (n : Nat) : ∀ (t : List Bool) (acc : List Key), Closed acc → Closed (dfs n t acc) := by
  induction n with
  | zero => intro t acc h; exact h
  | succ n ih =>
    intro t acc h
    unfold Bd.dfs
    split
    · exact ih _ _ h
    · split
      · exact h
      · have h1 := ih (t.take (2 ^ n)) acc h
        have h2 := ih (t.drop (2 ^ n)) _ h1
        have a1 := dfs_has n (t.take (2 ^ n)) acc
        have a2 := dfs_has n (t.drop (2 ^ n)) (Bd.dfs n (t.take (2 ^ n)) acc)
        obtain ⟨l2, e2⟩ := dfs_app n (t.drop (2 ^ n)) (Bd.dfs n (t.take (2 ^ n)) acc)
        intro k hk
        rcases List.mem_append.1 hk with hk | hk
        · obtain ⟨b0, b1, b2⟩ := h2 k hk
          exact ⟨b0, b1.app _ _ _, b2.app _ _ _⟩
        · simp only [List.mem_cons, List.not_mem_nil, or_false] at hk
          subst hk
          refine ⟨by show 1 ≤ n + 1; omega, ?_, a2.app _ _ _⟩
          show Has _ n (t.take (2 ^ n))
          refine Has.app _ _ _ ?_
          rw [e2]; exact a1.app _ _ _

/-! The nodes of a list of nodes, as keys. -/

def lev (ns : List Nd) (r : Int) : Nat := (16 - top ns r).toNat
def key (ns : List Nd) (r : Int) : Key := (lev ns r, tb ns (lev ns r) r)

theorem take_tb (ns : List Nd) (n : Nat) (a b : Int) : (tb ns n a ++ tb ns n b).take (2 ^ n) = tb ns n a := by
  rw [List.take_append_of_le_length (by rw [tb_length]; exact Nat.le_refl _), List.take_of_length_le (by rw [tb_length]; exact Nat.le_refl _)]
theorem drop_tb (ns : List Nd) (n : Nat) (a b : Int) : (tb ns n a ++ tb ns n b).drop (2 ^ n) = tb ns n b := by
  rw [List.drop_append_of_le_length (by rw [tb_length]; exact Nat.le_refl _), List.drop_of_length_le (by rw [tb_length]; exact Nat.le_refl _)]; simp

/-- Above its level a node's table says the same. -/
theorem dfs_up {ns : List Nd} (o : Ord ns) {r : Int} (hr : Ref ns r) (acc : List Key) : ∀ d, dfs (lev ns r + d) (tb ns (lev ns r + d) r) acc = dfs (lev ns r) (tb ns (lev ns r) r) acc := by
  intro d
  induction d with
  | zero => rfl
  | succ d ih =>
    have ht := o.top_lt hr
    have hs : tb ns (lev ns r + d + 1) r = tb ns (lev ns r + d) r ++ tb ns (lev ns r + d) r := tb_skip (by unfold lev; omega)
    rw [show lev ns r + (d + 1) = (lev ns r + d) + 1 from by omega, dfs_succ]
    rw [hs, take_tb, drop_tb, if_pos rfl]; exact ih

theorem rf_up {ns : List Nd} (o : Ord ns) {r : Int} (hr : Ref ns r) (acc : List Key) : ∀ d, rf acc (lev ns r + d) (tb ns (lev ns r + d) r) = rf acc (lev ns r) (tb ns (lev ns r) r) := by
  intro d
  induction d with
  | zero => rfl
  | succ d ih =>
    have ht := o.top_lt hr
    have hs : tb ns (lev ns r + d + 1) r = tb ns (lev ns r + d) r ++ tb ns (lev ns r + d) r := tb_skip (by unfold lev; omega)
    rw [show lev ns r + (d + 1) = (lev ns r + d) + 1 from by omega, rf_succ]
    rw [hs, take_tb, drop_tb, if_pos rfl]; exact ih

theorem lev_le {ns : List Nd} (o : Ord ns) {r : Int} (hr : Ref ns r) : lev ns r ≤ 16 := by
  have := o.top_lt hr; unfold lev; omega

theorem dfs_at {ns : List Nd} (o : Ord ns) {r : Int} (hr : Ref ns r) (acc : List Key) {n : Nat} (h : lev ns r ≤ n) : dfs n (tb ns n r) acc = dfs (lev ns r) (tb ns (lev ns r) r) acc := by
  have := dfs_up o hr acc (n - lev ns r)
  rwa [show lev ns r + (n - lev ns r) = n from by omega] at this
theorem rf_at {ns : List Nd} (o : Ord ns) {r : Int} (hr : Ref ns r) (acc : List Key) {n : Nat} (h : lev ns r ≤ n) : rf acc n (tb ns n r) = rf acc (lev ns r) (tb ns (lev ns r) r) := by
  have := rf_up o hr acc (n - lev ns r)
  rwa [show lev ns r + (n - lev ns r) = n from by omega] at this

/-- A constant. -/
theorem dfs_neg {N : Nat} (hN : 16 ≤ N) {ns : List Nd} (o : Ord ns) {r : Int} (hr : Ref ns r) (h : r < 0) (acc : List Key) : dfs N (tb ns N r) acc = acc ∧ rf acc N (tb ns N r) = r := by
  have h0 : lev ns r = 0 := by unfold lev; rw [top_neg h]; rfl
  rw [dfs_at o hr acc (Nat.le_trans (lev_le o hr) hN), rf_at o hr acc (Nat.le_trans (lev_le o hr) hN), h0]
  refine ⟨rfl, ?_⟩
  have := hr.1
  rcases (by omega : r = -1 ∨ r = -2) with rfl | rfl
  · simp [tb, rf]
  · simp [tb, rf]

theorem key_inj {ns : List Nd} (g : Good ns) {r s : Int} (hr : Ref ns r) (hs : Ref ns s) (h : key ns r = key ns s) : r = s := by
  simp only [key, Prod.mk.injEq] at h
  obtain ⟨h1, h2⟩ := h
  have ar := g.ord.top_lt hr
  have as := g.ord.top_lt hs
  rw [h1] at h2
  refine g.inj (lev ns s) hr hs ?_ ?_ h2
  · rw [← h1]; unfold lev; omega
  · unfold lev; omega

/-- A node, one level down. -/
theorem node_parts {ns : List Nd} (g : Good ns) {r : Int} (hr : Ref ns r) (h0 : 0 ≤ r) : ∃ n, lev ns r = n + 1 ∧ tb ns (n + 1) r = tb ns n (lo ns r) ++ tb ns n (hi ns r) ∧ tb ns n (lo ns r) ≠ tb ns n (hi ns r) ∧ lev ns (lo ns r) ≤ n ∧ lev ns (hi ns r) ≤ n ∧ (nd ns r).1 = 16 - ((n + 1 : Nat) : Int) := by
  have ht := g.ord.top_lt hr
  have hl := g.ord.ref_lo hr h0
  have hh := g.ord.ref_hi hr h0
  have ht2 := ht.2.2 h0
  obtain ⟨i, rfl⟩ := Int.eq_ofNat_of_zero_le h0
  have hn : lev ns i = (15 - top ns i).toNat + 1 := by unfold lev; omega
  refine ⟨(15 - top ns i).toNat, hn, tb_node (by omega), ?_, by unfold lev; omega, by unfold lev; omega, by rw [← top_nat]; omega⟩
  intro e
  have := g.inj _ hl.1 hh.1 (by omega) (by omega) e
  exact g.red i (by have := hr.2; omega) this

theorem dfs_node {N : Nat} (hN : 16 ≤ N) {ns : List Nd} (g : Good ns) {r : Int} (hr : Ref ns r) (h0 : 0 ≤ r) (acc : List Key) (hn : key ns r ∉ acc) :
    dfs N (tb ns N r) acc = dfs N (tb ns N (hi ns r)) (dfs N (tb ns N (lo ns r)) acc) ++ [key ns r] := by
  obtain ⟨n, e1, e2, e3, e4, e5, _⟩ := node_parts g hr h0
  have hl := g.ord.ref_lo hr h0
  have hh := g.ord.ref_hi hr h0
  rw [dfs_at g.ord hr acc (Nat.le_trans (lev_le g.ord hr) hN), e1]
  unfold key at *
  rw [e1] at hn ⊢
  rw [dfs_at g.ord hl.1 acc (Nat.le_trans (lev_le g.ord hl.1) hN), dfs_at g.ord hh.1 _ (Nat.le_trans (lev_le g.ord hh.1) hN), ← dfs_at g.ord hl.1 acc e4, ← dfs_at g.ord hh.1 _ e5]
  rw [dfs_succ, if_neg (by rw [e2, take_tb, drop_tb]; exact e3), if_neg hn, e2, take_tb, drop_tb]

theorem dfs_known {N : Nat} (hN : 16 ≤ N) {ns : List Nd} (g : Good ns) {r : Int} (hr : Ref ns r) (h0 : 0 ≤ r) (acc : List Key) (hn : key ns r ∈ acc) : dfs N (tb ns N r) acc = acc := by
  obtain ⟨n, e1, e2, e3, e4, e5, _⟩ := node_parts g hr h0
  rw [dfs_at g.ord hr acc (Nat.le_trans (lev_le g.ord hr) hN), e1]
  unfold key at *
  rw [e1] at hn
  rw [dfs_succ, if_neg (by rw [e2, take_tb, drop_tb]; exact e3), if_pos hn]

theorem rf_node {N : Nat} (hN : 16 ≤ N) {ns : List Nd} (g : Good ns) {r : Int} (hr : Ref ns r) (h0 : 0 ≤ r) (acc : List Key) : rf acc N (tb ns N r) = (acc.idxOf (key ns r) : Int) := by
  obtain ⟨n, e1, e2, e3, _⟩ := node_parts g hr h0
  rw [rf_at g.ord hr acc (Nat.le_trans (lev_le g.ord hr) hN), e1]
  unfold key
  rw [e1, rf_succ, if_neg (by rw [e2, take_tb, drop_tb]; exact e3)]

theorem ndOf_key {N : Nat} (hN : 16 ≤ N) {ns : List Nd} (g : Good ns) {r : Int} (hr : Ref ns r) (h0 : 0 ≤ r) (acc : List Key) : ndOf acc (key ns r) = ((nd ns r).1, rf acc N (tb ns N (lo ns r)), rf acc N (tb ns N (hi ns r))) := by
  obtain ⟨n, e1, e2, e3, e4, e5, e6⟩ := node_parts g hr h0
  have hl := g.ord.ref_lo hr h0
  have hh := g.ord.ref_hi hr h0
  unfold key
  rw [e1]
  simp only [ndOf, Nat.add_sub_cancel]
  rw [e2, take_tb, drop_tb, e6, rf_at g.ord hl.1 acc (Nat.le_trans (lev_le g.ord hl.1) hN), rf_at g.ord hh.1 acc (Nat.le_trans (lev_le g.ord hh.1) hN), rf_at g.ord hl.1 acc e4, rf_at g.ord hh.1 acc e5]

end Go.Proofs.Ythhogbligfmpdaa.Bd

namespace Go.Proofs.Ythhogbligfmpdaa.Bd

theorem dfs_lev (n : Nat) : ∀ (t : List Bool) (acc : List Key) (k : Key), k ∈ dfs n t acc → k ∈ acc ∨ k.1 ≤ n := by
  induction n with
  | zero => intro t acc k h; exact Or.inl h
  | succ n ih =>
    intro t acc k h
    rw [dfs_succ] at h
    split at h
    · rcases ih _ _ _ h with h | h
      · exact Or.inl h
      · exact Or.inr (by omega)
    · split at h
      · exact Or.inl h
      · rcases List.mem_append.1 h with h | h
        · rcases ih _ _ _ h with h | h
          · rcases ih _ _ _ h with h | h
            · exact Or.inl h
            · exact Or.inr (by omega)
          · exact Or.inr (by omega)
        · simp only [List.mem_cons, List.not_mem_nil, or_false] at h
          subst h; exact Or.inr (Nat.le_refl _)

theorem dfs_len (n : Nat) : ∀ (t : List Bool) (acc : List Key), (dfs n t acc).length + 1 ≤ acc.length + 2 ^ n := by
  induction n with
  | zero => intro t acc; simp [dfs]
  | succ n ih =>
    intro t acc
    have hp : 2 ^ (n + 1) = 2 ^ n + 2 ^ n := by rw [Nat.pow_succ]; omega
    rw [dfs_succ]
    split
    · have := ih (t.take (2 ^ n)) acc
      rw [hp]
      generalize (dfs n (t.take (2 ^ n)) acc).length = q at *
      generalize 2 ^ n = p at *
      omega
    · split
      · have : 1 ≤ 2 ^ n := Nat.one_le_two_pow
        rw [hp]
        generalize 2 ^ n = p at *
        omega
      · have a := ih (t.take (2 ^ n)) acc
        have b := ih (t.drop (2 ^ n)) (dfs n (t.take (2 ^ n)) acc)
        rw [List.length_append, List.length_cons, List.length_nil, hp]
        generalize (dfs n (t.drop (2 ^ n)) (dfs n (t.take (2 ^ n)) acc)).length = q at *
        generalize (dfs n (t.take (2 ^ n)) acc).length = q at *
        generalize 2 ^ n = p at *
        omega

/-- A walk over references: those that are finished, and the nodes made of them. -/
structure WS (ns : List Nd) (L : List Int) (O : List Nd) : Prop where
  refs : ∀ r ∈ L, Ref ns r ∧ 0 ≤ r
  closed : Closed (L.map (key ns))
  out : O = (L.map (key ns)).map (ndOf (L.map (key ns)))

theorem WS.nil (ns : List Nd) : WS ns [] [] := ⟨by simp, by intro k hk; simp at hk, rfl⟩

theorem WS.len {ns : List Nd} {L : List Int} {O : List Nd} (h : WS ns L O) : O.length = L.length := by rw [h.out]; simp

theorem mem_key {ns : List Nd} (g : Good ns) {L : List Int} (hL : ∀ r ∈ L, Ref ns r ∧ 0 ≤ r) {r : Int} (hr : Ref ns r) : key ns r ∈ L.map (key ns) ↔ r ∈ L := by
  rw [List.mem_map]
  constructor
  · rintro ⟨s, hs, e⟩
    rw [← key_inj g (hL s hs).1 hr e]; exact hs
  · intro h; exact ⟨r, h, rfl⟩

theorem idx_key {ns : List Nd} (g : Good ns) {r : Int} (hr : Ref ns r) : ∀ (L : List Int), (∀ s ∈ L, Ref ns s ∧ 0 ≤ s) → (L.map (key ns)).idxOf (key ns r) = L.idxOf r
  | [], _ => by simp
  | s :: L, hL => by
    have ih := idx_key g hr L (fun x hx => hL x (List.mem_cons_of_mem _ hx))
    rw [List.map_cons, List.idxOf_cons, List.idxOf_cons, ih]
    by_cases e : s = r
    · subst e; rw [beq_self_eq_true, beq_self_eq_true]
    · have : key ns s ≠ key ns r := fun h => e (key_inj g (hL s List.mem_cons_self).1 hr h)
      rw [beq_eq_false_iff_ne.2 e, beq_eq_false_iff_ne.2 this]

theorem idx_last {L : List Int} {r : Int} (h : r ∉ L) : (L ++ [r]).idxOf r = L.length := by
  rw [List.idxOf_append, if_neg h]; simp

/-- A new node is finished behind its parts. -/
theorem WS.push {N : Nat} (hN : 16 ≤ N) {ns : List Nd} (g : Good ns) {L L1 L2 : List Int} {O1 O2 : List Nd} {r : Int} (hr : Ref ns r) (h0 : 0 ≤ r) (hn : r ∉ L) (hL : ∀ s ∈ L, Ref ns s ∧ 0 ≤ s) (hLc : Closed (L.map (key ns)))
    (h1 : WS ns L1 O1) (e1 : L1.map (key ns) = dfs N (tb ns N (lo ns r)) (L.map (key ns))) (h2 : WS ns L2 O2) (e2 : L2.map (key ns) = dfs N (tb ns N (hi ns r)) (L1.map (key ns))) :
    r ∉ L2 ∧ WS ns (L2 ++ [r]) (O2 ++ [((nd ns r).1, rf (L1.map (key ns)) N (tb ns N (lo ns r)), rf (L2.map (key ns)) N (tb ns N (hi ns r)))]) ∧
      (L2 ++ [r]).map (key ns) = dfs N (tb ns N r) (L.map (key ns)) ∧ rf ((L2 ++ [r]).map (key ns)) N (tb ns N r) = L2.length := by
  obtain ⟨n, k1, k2, k3, k4, k5, k6⟩ := node_parts g hr h0
  have hl := g.ord.ref_lo hr h0
  have hh := g.ord.ref_hi hr h0
  have hr2 : r ∉ L2 := by
    intro hm
    have hm2 := (mem_key g h2.refs hr).2 hm
    rw [e2, dfs_at g.ord hh.1 _ (Nat.le_trans (lev_le g.ord hh.1) hN)] at hm2
    rcases dfs_lev _ _ _ _ hm2 with hm3 | hm3
    · rw [e1, dfs_at g.ord hl.1 _ (Nat.le_trans (lev_le g.ord hl.1) hN)] at hm3
      rcases dfs_lev _ _ _ _ hm3 with hm4 | hm4
      · exact hn ((mem_key g hL hr).1 hm4)
      · simp only [key] at hm4; omega
    · simp only [key] at hm3; omega
  have hnk : key ns r ∉ L.map (key ns) := fun h => hn ((mem_key g hL hr).1 h)
  have e3 : (L2 ++ [r]).map (key ns) = dfs N (tb ns N r) (L.map (key ns)) := by
    rw [dfs_node hN g hr h0 _ hnk, List.map_append, e2, e1]; rfl
  have hLr : ∀ s ∈ L2 ++ [r], Ref ns s ∧ 0 ≤ s := by
    intro s hs
    rcases List.mem_append.1 hs with hs | hs
    · exact h2.refs s hs
    · simp only [List.mem_cons, List.not_mem_nil, or_false] at hs; subst hs; exact ⟨hr, h0⟩
  obtain ⟨l2, a2⟩ := dfs_app N (tb ns N (hi ns r)) (L1.map (key ns))
  have hasl : Has (L1.map (key ns)) N (tb ns N (lo ns r)) := by rw [e1]; exact dfs_has _ _ _
  have hash : Has (L2.map (key ns)) N (tb ns N (hi ns r)) := by rw [e2]; exact dfs_has _ _ _
  have hcl : Closed ((L2 ++ [r]).map (key ns)) := by rw [e3]; exact Closed.dfs N _ _ hLc
  refine ⟨hr2, ⟨hLr, hcl, ?_⟩, e3, ?_⟩
  · rw [h2.out, List.map_append, List.map_append]
    congr 1
    · refine List.map_congr_left fun k hk => ?_
      exact (h2.closed.ndOf_app _ hk).symm
    · rw [List.map_cons, List.map_nil, List.map_cons, List.map_nil, ndOf_key hN g hr h0]
      rw [rf_app _ _ _ hash]
      have : rf (L2.map (key ns) ++ [key ns r]) N (tb ns N (lo ns r)) = rf (L1.map (key ns)) N (tb ns N (lo ns r)) := by
        rw [e2, a2, List.append_assoc, rf_app _ _ _ hasl]
      rw [this]
  · rw [rf_node hN g hr h0, idx_key g hr _ hLr, idx_last hr2]

end Go.Proofs.Ythhogbligfmpdaa.Bd
