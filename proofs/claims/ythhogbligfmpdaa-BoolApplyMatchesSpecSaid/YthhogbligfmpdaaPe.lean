/- Plain facts on the walk over tables. No program in sight. -/
import Derived.Test.YthhogbligfmpdaaPd
set_option linter.unusedVariables false
set_option linter.unusedSimpArgs false
namespace Go.Proofs.Ythhogbligfmpdaa.Bd

def unif (t : List Bool) : Bool := t.all (· == t.getD 0 false)

theorem unif_iff {t : List Bool} : unif t = true ↔ ∀ i, i < t.length → t.getD i false = t.getD 0 false := by
  unfold unif
  rw [List.all_eq_true]
  constructor
  · intro h i hi
    have := h (t[i]) (List.getElem_mem hi)
    rw [List.getD_eq_getElem?_getD, List.getElem?_eq_getElem hi]
    simpa using this
  · intro h x hx
    obtain ⟨i, hi, rfl⟩ := List.mem_iff_getElem.1 hx
    have := h i hi
    rw [List.getD_eq_getElem?_getD, List.getElem?_eq_getElem hi] at this
    simpa using this

theorem unif_rep {t : List Bool} (h : unif t = true) : t = List.replicate t.length (t.getD 0 false) := by
  rw [List.eq_replicate_iff]
  refine ⟨rfl, fun b hb => ?_⟩
  have := List.all_eq_true.1 h b hb
  simpa using this

theorem rep_unif (n : Nat) (b : Bool) : unif (List.replicate n b) = true := by
  rw [unif_iff]
  intro i hi
  simp only [List.length_replicate] at hi
  simp [List.getD_eq_getElem?_getD, hi, show 0 < n by omega]

theorem dfs_rep (n : Nat) (b : Bool) (acc : List Key) : dfs n (List.replicate (2 ^ n) b) acc = acc ∧ rf acc n (List.replicate (2 ^ n) b) = if b then -2 else -1 := by
  induction n with
  | zero => cases b <;> simp [dfs, rf]
  | succ n ih =>
    have h1 : (List.replicate (2 ^ (n + 1)) b).take (2 ^ n) = List.replicate (2 ^ n) b := by
      rw [List.take_replicate]; congr 1
      exact Nat.min_eq_left (pow_mono (by omega))
    have h2 : (List.replicate (2 ^ (n + 1)) b).drop (2 ^ n) = List.replicate (2 ^ n) b := by
      rw [List.drop_replicate]; congr 1
      rw [Nat.pow_succ, Nat.mul_two, Nat.add_sub_cancel]
    rw [dfs_succ, rf_succ, h1, h2, if_pos rfl, if_pos rfl]
    exact ih

theorem dfs_unif {n : Nat} {t : List Bool} (hl : t.length = 2 ^ n) (h : unif t = true) (acc : List Key) : dfs n t acc = acc ∧ rf acc n t = if t.getD 0 false then -2 else -1 := by
  have e := unif_rep h
  rw [hl] at e
  have := dfs_rep n (t.getD 0 false) acc
  rw [← e] at this
  exact this

theorem unif_one {t : List Bool} (hl : t.length = 1) : unif t = true := by
  match t, hl with
  | [b], _ => simp [unif]

theorem unif_pos {n : Nat} {t : List Bool} (hl : t.length = 2 ^ n) (h : unif t = false) : ∃ m, n = m + 1 := by
  cases n with
  | zero => rw [unif_one (by simpa using hl)] at h; simp at h
  | succ m => exact ⟨m, rfl⟩

theorem half_len {m : Nat} {t : List Bool} (hl : t.length = 2 ^ (m + 1)) : (t.take (2 ^ m)).length = 2 ^ m ∧ (t.drop (2 ^ m)).length = 2 ^ m := by
  have : 2 ^ (m + 1) = 2 ^ m + 2 ^ m := by rw [Nat.pow_succ]; omega
  constructor
  · rw [List.length_take, hl]; omega
  · rw [List.length_drop, hl]; omega

/-- Both halves are alike: the table says no more than its first half. -/
theorem half_same {m : Nat} {t : List Bool} (hl : t.length = 2 ^ (m + 1)) (h : t.take (2 ^ m) = t.drop (2 ^ m)) (hu : unif t = false) : (∀ acc, dfs (m + 1) t acc = dfs m (t.take (2 ^ m)) acc) ∧ (∀ acc, rf acc (m + 1) t = rf acc m (t.take (2 ^ m))) ∧ unif (t.take (2 ^ m)) = false := by
  refine ⟨fun acc => by rw [dfs_succ, if_pos h], fun acc => by rw [rf_succ, if_pos h], ?_⟩
  cases hc : unif (t.take (2 ^ m)) with
  | false => rfl
  | true =>
    have e := unif_rep hc
    rw [(half_len hl).1] at e
    have : t = List.replicate (2 ^ m + 2 ^ m) ((t.take (2 ^ m)).getD 0 false) := by
      rw [← List.replicate_append_replicate, ← e]
      conv => lhs; rw [← List.take_append_drop (2 ^ m) t, ← h]
    rw [this, rep_unif] at hu
    simp at hu

/-- The halves differ and the node is known. -/
theorem walk_hit {m : Nat} {t : List Bool} (h : t.take (2 ^ m) ≠ t.drop (2 ^ m)) {acc : List Key} (hm : (m + 1, t) ∈ acc) : dfs (m + 1) t acc = acc ∧ rf acc (m + 1) t = (acc.idxOf (m + 1, t) : Int) := by
  rw [dfs_succ, if_neg h, if_pos hm, rf_succ, if_neg h]; exact ⟨rfl, rfl⟩

/-- It is not known. -/
theorem walk_miss {m : Nat} {t : List Bool} (h : t.take (2 ^ m) ≠ t.drop (2 ^ m)) {acc : List Key} (hm : (m + 1, t) ∉ acc) : dfs (m + 1) t acc = dfs m (t.drop (2 ^ m)) (dfs m (t.take (2 ^ m)) acc) ++ [(m + 1, t)] := by
  rw [dfs_succ, if_neg h, if_neg hm]

theorem miss_root {m : Nat} {t : List Bool} (h : t.take (2 ^ m) ≠ t.drop (2 ^ m)) {acc : List Key} (hm : (m + 1, t) ∉ acc) : rf (dfs (m + 1) t acc) (m + 1) t = ((dfs m (t.drop (2 ^ m)) (dfs m (t.take (2 ^ m)) acc)).length : Int) := by
  have hn : (m + 1, t) ∉ dfs m (t.drop (2 ^ m)) (dfs m (t.take (2 ^ m)) acc) := by
    intro hx
    rcases dfs_lev _ _ _ _ hx with hx | hx
    · rcases dfs_lev _ _ _ _ hx with hx | hx
      · exact hm hx
      · simp at hx; omega
    · simp at hx; omega
  rw [walk_miss h hm, rf_succ, if_neg h, List.idxOf_append, if_neg hn]
  simp

/-- The nodes behind a new one. -/
theorem miss_nodes {m : Nat} {t : List Bool} (h : t.take (2 ^ m) ≠ t.drop (2 ^ m)) {acc : List Key} (hc : Closed acc) (hm : (m + 1, t) ∉ acc) :
    (dfs (m + 1) t acc).map (ndOf (dfs (m + 1) t acc)) = (dfs m (t.drop (2 ^ m)) (dfs m (t.take (2 ^ m)) acc)).map (ndOf (dfs m (t.drop (2 ^ m)) (dfs m (t.take (2 ^ m)) acc))) ++
      [(16 - ((m + 1 : Nat) : Int), rf (dfs m (t.take (2 ^ m)) acc) m (t.take (2 ^ m)), rf (dfs m (t.drop (2 ^ m)) (dfs m (t.take (2 ^ m)) acc)) m (t.drop (2 ^ m)))] := by
  rw [walk_miss h hm]
  have hc1 := Closed.dfs m (t.take (2 ^ m)) acc hc
  have hc2 := Closed.dfs m (t.drop (2 ^ m)) _ hc1
  obtain ⟨l2, e2⟩ := dfs_app m (t.drop (2 ^ m)) (dfs m (t.take (2 ^ m)) acc)
  rw [List.map_append]
  congr 1
  · exact List.map_congr_left fun k hk => hc2.ndOf_app _ hk
  · simp only [List.map_cons, List.map_nil, ndOf, Nat.add_sub_cancel]
    rw [rf_app _ _ _ (dfs_has m (t.drop (2 ^ m)) _)]
    have : rf (dfs m (t.drop (2 ^ m)) (dfs m (t.take (2 ^ m)) acc) ++ [(m + 1, t)]) m (t.take (2 ^ m)) = rf (dfs m (t.take (2 ^ m)) acc) m (t.take (2 ^ m)) := by
      rw [e2, List.append_assoc, rf_app _ _ _ (dfs_has m (t.take (2 ^ m)) acc)]
    rw [this]

end Go.Proofs.Ythhogbligfmpdaa.Bd
