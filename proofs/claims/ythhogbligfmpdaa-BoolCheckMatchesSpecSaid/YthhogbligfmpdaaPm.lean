/- The variables of a diagram's nodes, sorted, each once. No program. -/
import Derived.Test.YthhogbligfmpdaaPa
import Derived.Lib.RowBridge
set_option linter.unusedVariables false
set_option linter.unusedSimpArgs false
namespace Go.Proofs.Ythhogbligfmpdaa.Bd
open Go.Lib

theorem lt_ext : ∀ {l l' : List Int}, l.Pairwise (· < ·) → l'.Pairwise (· < ·) → (∀ x, x ∈ l ↔ x ∈ l') → l = l'
  | [], [], _, _, _ => rfl
  | [], b :: t, _, _, h => by have := (h b).2 (by simp); simp at this
  | a :: s, [], _, _, h => by have := (h a).1 (by simp); simp at this
  | a :: s, b :: t, h1, h2, h => by
    rw [List.pairwise_cons] at h1 h2
    have e1 : b ≤ a := by
      rcases List.mem_cons.1 ((h a).1 (by simp)) with e | e
      · omega
      · exact Int.le_of_lt (h2.1 a e)
    have e2 : a ≤ b := by
      rcases List.mem_cons.1 ((h b).2 (by simp)) with e | e
      · omega
      · exact Int.le_of_lt (h1.1 b e)
    obtain rfl : a = b := by omega
    congr 1
    refine lt_ext h1.2 h2.2 fun x => ⟨fun hx => ?_, fun hx => ?_⟩
    · have := h1.1 x hx
      rcases List.mem_cons.1 ((h x).1 (List.mem_cons_of_mem _ hx)) with e | e
      · omega
      · exact e
    · have := h2.1 x hx
      rcases List.mem_cons.1 ((h x).2 (List.mem_cons_of_mem _ hx)) with e | e
      · omega
      · exact e

theorem compact_step {d : Array Int} {N : Nat} (hm : ∀ i j, i ≤ j → j < N → d[i]! ≤ d[j]!) : ∀ m, m ≤ N → (compactUpTo d m).Pairwise (· < ·) ∧ ∀ x, x ∈ compactUpTo d m ↔ ∃ j, j < m ∧ d[j]! = x
  | 0, _ => by simp [compactUpTo]
  | m + 1, h => by
    obtain ⟨i1, i2⟩ := compact_step hm m (by omega)
    rw [compactUpTo_succ]
    by_cases hk : keeps d m = true
    · rw [if_pos hk]
      refine ⟨List.pairwise_append.2 ⟨i1, by simp, fun x hx y hy => ?_⟩, fun x => ?_⟩
      · rw [List.mem_singleton] at hy
        subst hy
        obtain ⟨j, hj, rfl⟩ := (i2 x).1 hx
        have h1 := hm j (m - 1) (by omega) (by omega)
        have h2 := hm (m - 1) m (by omega) (by omega)
        have h3 : m = 0 ∨ d[m]! ≠ d[m - 1]! := by unfold keeps at hk; exact of_decide_eq_true hk
        rcases h3 with e | e
        · omega
        · omega
      · rw [List.mem_append, List.mem_singleton, i2]
        constructor
        · rintro (⟨j, hj, e⟩ | e)
          · exact ⟨j, by omega, e⟩
          · exact ⟨m, by omega, e.symm⟩
        · rintro ⟨j, hj, e⟩
          by_cases hjm : j = m
          · subst hjm; right; exact e.symm
          · left; exact ⟨j, by omega, e⟩
    · rw [if_neg hk, List.append_nil]
      refine ⟨i1, fun x => ?_⟩
      have h3 : ¬ (m = 0 ∨ d[m]! ≠ d[m - 1]!) := by unfold keeps at hk; simpa using hk
      have h0 : m ≠ 0 := fun e => h3 (Or.inl e)
      have he : d[m]! = d[m - 1]! := Classical.byContradiction fun e => h3 (Or.inr e)
      rw [i2]
      constructor
      · rintro ⟨j, hj, e⟩; exact ⟨j, by omega, e⟩
      · rintro ⟨j, hj, e⟩
        by_cases hjm : j = m
        · subst hjm; exact ⟨j - 1, by omega, by rw [← he]; exact e⟩
        · exact ⟨j, by omega, e⟩

theorem compact_sorted {zs : List Int} (hs : zs.Pairwise (· ≤ ·)) : (compact zs).Pairwise (· < ·) ∧ ∀ x, x ∈ compact zs ↔ x ∈ zs := by
  have g : ∀ j, (h : j < zs.length) → zs.toArray[j]! = zs[j] := fun j h => by rw [getElem!_pos zs.toArray j (by simpa using h)]; simp
  have hm : ∀ i j, i ≤ j → j < zs.length → zs.toArray[i]! ≤ zs.toArray[j]! := by
    intro i j hij hj
    rw [g i (by omega), g j hj]
    by_cases e : i = j
    · subst e; exact Int.le_refl _
    · exact (List.pairwise_iff_getElem.1 hs) i j (by omega) hj (by omega)
  obtain ⟨h1, h2⟩ := compact_step hm zs.length (Nat.le_refl _)
  refine ⟨h1, fun x => ?_⟩
  show x ∈ compactUpTo zs.toArray zs.length ↔ _
  rw [h2]
  constructor
  · rintro ⟨j, hj, e⟩; rw [g j hj] at e; rw [← e]; exact List.getElem_mem hj
  · intro hx
    obtain ⟨j, hj, e⟩ := List.getElem_of_mem hx
    exact ⟨j, hj, by rw [g j hj]; exact e⟩

/-- The variables that nodes test. -/
def sup (ds : List Nd) : List Int := ((List.range 16).filter fun (v : Nat) => decide ((v : Int) ∈ ds.map (·.1))).map Int.ofNat

def srt (zs : List Int) : List Int := zs.mergeSort fun x y => decide (x ≤ y)

theorem srt_len (zs : List Int) : (srt zs).length = zs.length := List.length_mergeSort _

theorem sup_sorted (ds : List Nd) : (sup ds).Pairwise (· < ·) := by
  unfold sup
  rw [List.pairwise_map]
  exact (List.Pairwise.filter _ List.pairwise_lt_range).imp fun h => by simpa using h

theorem sup_mem {ds : List Nd} {x : Int} : x ∈ sup ds ↔ 0 ≤ x ∧ x < 16 ∧ x ∈ ds.map (·.1) := by
  unfold sup
  rw [List.mem_map]
  constructor
  · rintro ⟨v, hv, rfl⟩
    rw [List.mem_filter, List.mem_range] at hv
    exact ⟨Int.natCast_nonneg _, by have := hv.1; show (v : Int) < 16; omega, of_decide_eq_true hv.2⟩
  · rintro ⟨h0, h1, h2⟩
    refine ⟨x.toNat, ?_, Int.toNat_of_nonneg h0⟩
    rw [List.mem_filter, List.mem_range]
    refine ⟨by omega, decide_eq_true ?_⟩
    rw [Int.toNat_of_nonneg h0]
    exact h2

theorem compact_sup {ds : List Nd} (h : ∀ n ∈ ds, 0 ≤ n.1 ∧ n.1 < 16) : compact (srt (ds.map (·.1))) = sup ds := by
  have hp : (srt (ds.map (·.1))).Pairwise (· ≤ ·) := by
    have := List.pairwise_mergeSort (le := fun (x y : Int) => decide (x ≤ y)) (fun a b c h1 h2 => by simp at h1 h2 ⊢; omega) (fun a b => by simp; omega) (ds.map (·.1))
    exact this.imp fun h => by simpa using h
  obtain ⟨h1, h2⟩ := compact_sorted hp
  refine lt_ext h1 (sup_sorted ds) fun x => ?_
  rw [h2, sup_mem]
  unfold srt
  rw [List.mem_mergeSort]
  constructor
  · intro hx
    obtain ⟨n, hn, rfl⟩ := List.mem_map.1 hx
    exact ⟨(h n hn).1, (h n hn).2, hx⟩
  · exact fun hx => hx.2.2

theorem sup_le (ds : List Nd) : (sup ds).length ≤ 16 := by
  unfold sup
  rw [List.length_map]
  exact Nat.le_trans (List.length_filter_le _ _) (by simp)

end Go.Proofs.Ythhogbligfmpdaa.Bd
