/- Plain facts: the reference's check of a diagram says the same. No program in sight. -/
import Derived.Test.YthhogbligfmpdaaPh
set_option linter.unusedVariables false
set_option linter.unusedSimpArgs false
namespace Go.Proofs.Ythhogbligfmpdaa.Bd

/-- The reference's walk: those that are finished, in order; f is above the reference. -/
def numb (ns : List Nd) : Nat → Int → List Int → List Int
  | 0, _, L => L
  | f + 1, r, L => if r < 0 then L else if r ∈ L then L else numb ns f (hi ns r) (numb ns f (lo ns r) L) ++ [r]

theorem numb_neg {ns : List Nd} {f : Nat} {r : Int} {L : List Int} (h : r < 0) : numb ns f r L = L := by
  cases f with
  | zero => rfl
  | succ f => simp only [numb]; rw [if_pos h]
theorem numb_known {ns : List Nd} {f : Nat} {r : Int} {L : List Int} (h : r ∈ L) : numb ns f r L = L := by
  cases f with
  | zero => rfl
  | succ f => simp only [numb]; split <;> rfl
theorem numb_new {ns : List Nd} {f : Nat} {r : Int} {L : List Int} (h : 0 ≤ r) (hn : r ∉ L) : numb ns (f + 1) r L = numb ns f (hi ns r) (numb ns f (lo ns r) L) ++ [r] := by
  simp only [numb]; rw [if_neg (by omega), if_neg hn]

/-- How much longer it may grow. -/
theorem numb_refs {ns : List Nd} (o : Ord ns) (f : Nat) : ∀ (r : Int) (L : List Int), Ref ns r → L.Nodup → (∀ s ∈ L, Ref ns s ∧ 0 ≤ s) → (numb ns f r L).Nodup ∧ (∀ s ∈ numb ns f r L, Ref ns s ∧ 0 ≤ s) ∧ (∀ s ∈ numb ns f r L, s ∈ L ∨ s ≤ r) := by
  induction f with
  | zero => intro r L _ hn hL; exact ⟨hn, hL, fun s hs => Or.inl hs⟩
  | succ f ih =>
    intro r L hr hn hL
    by_cases h0 : r < 0
    · rw [numb_neg h0]; exact ⟨hn, hL, fun s hs => Or.inl hs⟩
    · by_cases hm : r ∈ L
      · rw [numb_known hm]; exact ⟨hn, hL, fun s hs => Or.inl hs⟩
      · rw [numb_new (by omega) hm]
        have a := o.ref_lo hr (by omega)
        have b := o.ref_hi hr (by omega)
        obtain ⟨a1, a2, a3⟩ := ih (lo ns r) L a.1 hn hL
        obtain ⟨b1, b2, b3⟩ := ih (hi ns r) _ b.1 a1 a2
        have hnot : r ∉ numb ns f (hi ns r) (numb ns f (lo ns r) L) := by
          intro hx
          rcases b3 r hx with hx | hx
          · rcases a3 r hx with hx | hx
            · exact hm hx
            · omega
          · omega
        refine ⟨?_, ?_, ?_⟩
        · rw [List.nodup_append]
          refine ⟨b1, by simp, ?_⟩
          intro x hx y hy
          simp at hy; subst hy
          exact fun e => hnot (e ▸ hx)
        · intro s hs
          rcases List.mem_append.1 hs with hs | hs
          · exact b2 s hs
          · simp at hs; subst hs; exact ⟨hr, by omega⟩
        · intro s hs
          rcases List.mem_append.1 hs with hs | hs
          · rcases b3 s hs with hs | hs
            · rcases a3 s hs with hs | hs
              · exact Or.inl hs
              · right; omega
            · right; omega
          · simp at hs; subst hs; right; exact Int.le_refl _

/-- Distinct references from 0 on below n: at most n. -/
theorem len_of_nodup (n : Nat) : ∀ (L : List Int), L.Nodup → (∀ s ∈ L, 0 ≤ s ∧ s < (n : Int)) → L.length ≤ n := by
  induction n with
  | zero =>
    intro L _ h
    cases L with
    | nil => simp
    | cons x L => have := h x List.mem_cons_self; omega
  | succ n ih =>
    intro L hn h
    by_cases hm : (n : Int) ∈ L
    · have h1 := ih (L.erase n) (hn.erase _) (fun s hs => by
        have h2 := (hn.mem_erase_iff).1 hs
        have := h s h2.2
        have := h2.1
        omega)
      rw [List.length_erase_of_mem hm] at h1
      omega
    · have := ih L hn (fun s hs => by
        have h1 := h s hs
        have : s ≠ (n : Int) := fun e => hm (e ▸ hs)
        omega)
      omega

theorem numb_len {ns : List Nd} (o : Ord ns) {f : Nat} {r : Int} (hr : Ref ns r) {L : List Int} (hn : L.Nodup) (hL : ∀ s ∈ L, Ref ns s ∧ 0 ≤ s) : (numb ns f r L).length ≤ ns.length := by
  obtain ⟨a, b, _⟩ := numb_refs o f r L hr hn hL
  exact len_of_nodup _ _ a (fun s hs => ⟨(b s hs).2, (b s hs).1.2⟩)

/-- It is the walk over tables. -/
theorem numb_dfs {ns : List Nd} (g : Good ns) (f : Nat) : ∀ (r : Int) (L : List Int) (O : List Nd), r < f → Ref ns r → WS ns L O → ∃ O', WS ns (numb ns f r L) O' ∧ (numb ns f r L).map (key ns) = dfs 16 (tb ns 16 r) (L.map (key ns)) ∧ (0 ≤ r → r ∉ L → rf ((numb ns f r L).map (key ns)) 16 (tb ns 16 r) = ((numb ns f r L).length : Int) - 1) := by
  induction f with
  | zero =>
    intro r L O hf hr h
    refine ⟨O, h, ?_, fun h0 => by omega⟩
    rw [(dfs_neg (Nat.le_refl _) g.ord hr (by omega) _).1]; rfl
  | succ f ih =>
    intro r L O hf hr h
    by_cases h0 : r < 0
    · rw [numb_neg h0]
      refine ⟨O, h, ?_, fun h0 => by omega⟩
      rw [(dfs_neg (Nat.le_refl _) g.ord hr h0 _).1]
    · by_cases hm : r ∈ L
      · rw [numb_known hm]
        refine ⟨O, h, ?_, fun _ h1 => absurd hm h1⟩
        rw [dfs_known (Nat.le_refl _) g hr (by omega) _ ((mem_key g h.refs hr).2 hm)]
      · rw [numb_new (by omega) hm]
        have a := g.ord.ref_lo hr (by omega)
        have b := g.ord.ref_hi hr (by omega)
        obtain ⟨O1, w1, e1, _⟩ := ih (lo ns r) L O (by omega) a.1 h
        obtain ⟨O2, w2, e2, _⟩ := ih (hi ns r) _ O1 (by omega) b.1 w1
        obtain ⟨_, p2, p3, p4⟩ := WS.push (Nat.le_refl 16) g hr (by omega) hm h.refs h.closed w1 e1 w2 e2
        refine ⟨_, p2, p3, fun _ _ => ?_⟩
        rw [p4]; simp

/-- The numbers 0 .. n - 1. -/
def upto (n : Nat) : List Int := (List.range n).map fun (i : Nat) => (i : Int)
theorem upto_len (n : Nat) : (upto n).length = n := by simp [upto]
theorem upto_get {n i : Nat} (h : i < n) : (upto n)[i]'(by rw [upto_len]; exact h) = (i : Int) := by simp [upto]
theorem upto_idx {n i : Nat} (h : i < n) : (upto n).idxOf (i : Int) = i := by
  have hn : (upto n).Nodup := by
    unfold upto
    rw [List.Nodup, List.pairwise_map]
    refine List.Pairwise.imp ?_ List.nodup_range
    intro a b hne e
    exact hne (by omega)
  have := hn.idxOf_getElem i (by rw [upto_len]; exact h)
  rw [upto_get h] at this
  exact this
theorem eq_upto {n : Nat} {L : List Int} (hl : L.length = n) (h : ∀ i : Nat, i < n → L[i]? = some (i : Int)) : L = upto n := by
  refine List.ext_getElem (by rw [hl, upto_len]) fun i h1 h2 => ?_
  have := h i (by omega)
  rw [List.getElem?_eq_getElem h1] at this
  rw [upto_get (by omega)]
  simpa using this

/-- A good diagram's check. -/
theorem cn_iff {ns : List Nd} (g : Good ns) {r : Int} (hr : Ref ns r) : (cnRoot (tb ns 16 r) = r ∧ cnNodes (tb ns 16 r) = ns) ↔ (if ns = [] then r = -1 ∨ r = -2 else r = (ns.length : Int) - 1 ∧ numb ns ns.length r [] = upto ns.length) := by
  have hT : (tb ns 16 r).length = 65536 := by rw [tb_length, two16]
  by_cases h0 : r < 0
  · have hz := dfs_neg (Nat.le_refl 16) g.ord hr h0 []
    have e1 : cnNodes (tb ns 16 r) = [] := by unfold cnNodes cnAcc; rw [hz.1]; rfl
    have e2 : cnRoot (tb ns 16 r) = r := by unfold cnRoot cnAcc; rw [hz.1, hz.2]
    rw [e1, e2]
    by_cases hn : ns = []
    · rw [if_pos hn]
      have := hr.1
      constructor
      · intro _; omega
      · intro _; exact ⟨rfl, hn.symm⟩
    · rw [if_neg hn]
      have : 0 < ns.length := List.length_pos_iff.2 hn
      constructor
      · intro h; exact absurd h.2.symm hn
      · intro h; omega
  · have hlt := hr.2
    have hn : ns ≠ [] := by intro e; subst e; simp at hlt; omega
    rw [if_neg hn]
    obtain ⟨O, hw, e1, e2⟩ := numb_dfs g ns.length r [] [] hlt hr (WS.nil ns)
    have e3 := e2 (by omega) (by simp)
    have hacc : cnAcc (tb ns 16 r) = (numb ns ns.length r []).map (key ns) := by rw [e1]; rfl
    have hroot : cnRoot (tb ns 16 r) = ((numb ns ns.length r []).length : Int) - 1 := by
      unfold cnRoot; rw [hacc]; exact e3
    generalize numb ns ns.length r [] = L at *
    clear e1 e2 e3
    generalize tb ns 16 r = T at *
    constructor
    · rintro ⟨h1, h2⟩
      have hlen : ns.length = L.length := by rw [← h2]; simp [cnNodes, hacc]
      refine ⟨by rw [← h1, hroot, hlen], eq_upto hlen.symm fun i hi => ?_⟩
      have pc := cn_pc hT
      have hi' : i < (cnAcc T).length := by rw [hacc]; simp; omega
      have k1 := pc.key hi'
      have k2 : ndsOf (cnAcc T) = ns := h2
      rw [k2] at k1
      have hiL : i < L.length := by omega
      have k3 : (cnAcc T)[i] = key ns L[i] := by simp [hacc]
      rw [k3] at k1
      have := key_inj g ⟨by omega, by omega⟩ (hw.refs _ (List.getElem_mem hiL)).1 k1
      rw [List.getElem?_eq_getElem hiL, ← this]
    · rintro ⟨h1, h2⟩
      have hlen : L.length = ns.length := by rw [h2, upto_len]
      refine ⟨by rw [hroot, hlen, h1], ?_⟩
      have hO : cnNodes T = O := by rw [hw.out]; unfold cnNodes; rw [hacc]
      rw [hO]
      have rfi : ∀ s : Int, Ref ns s → rf (L.map (key ns)) 16 (tb ns 16 s) = s := by
        intro s hs
        by_cases hs0 : s < 0
        · exact (dfs_neg (Nat.le_refl 16) g.ord hs hs0 _).2
        · rw [rf_node (Nat.le_refl 16) g hs (by omega), idx_key g hs _ hw.refs, h2]
          obtain ⟨j, rfl⟩ := Int.eq_ofNat_of_zero_le (by omega : 0 ≤ s)
          rw [upto_idx (by have := hs.2; omega)]
      refine List.ext_getElem (by rw [hw.len, hlen]) fun i i1 i2 => ?_
      have hiL : i < L.length := by omega
      have hir : Ref ns (i : Int) := ⟨by omega, by omega⟩
      have hLi : L[i] = (i : Int) := by
        have : L[i]? = (upto ns.length)[i]? := by rw [h2]
        rw [List.getElem?_eq_getElem hiL, List.getElem?_eq_getElem (by rw [upto_len]; omega), upto_get (by omega)] at this
        simpa using this
      have hOi : O[i] = ndOf (L.map (key ns)) (key ns (i : Int)) := by
        simp [hw.out, hLi]
      rw [hOi, ndOf_key (Nat.le_refl 16) g hir (by omega), rfi _ (g.ord.ref_lo hir (by omega)).1, rfi _ (g.ord.ref_hi hir (by omega)).1, ← nd_of_lt i2]
      rfl

/-- A node that is idle, out of order, or there already. -/
def rBad (ns : List Nd) (i : Nat) : Prop := lo ns i = hi ns i ∨ kBad ns i ∨ ∃ k : Nat, k < i ∧ nd ns k = nd ns i

theorem chk_bad {ns : List Nd} {r : Int} (h : ¬ 2000 < ns.length) (h0 : firstErr ns ns.length = 0) {i : Nat} (hi : i < ns.length) (hb : rBad ns i) : chk ns r = 2 := by
  by_cases hz : chk ns r = 0
  · exfalso
    have g := chk_zero_good hz
    rcases hb with hb | hb | ⟨k, hk, e⟩
    · exact g.red i hi hb
    · exact ord_kids g.ord i hi hb
    · have hp := List.pairwise_iff_getElem.1 g.nodup
      rw [nd_of_lt (by omega), nd_of_lt hi] at e
      exact hp k i (by omega) hi hk e
  · have h3 : ¬ firstErr ns ns.length ≠ 0 := by simpa using h0
    unfold chk at hz ⊢
    rw [if_neg h, if_neg h3] at hz ⊢
    split at hz
    · rw [if_pos (by assumption)]
    · rw [if_neg (by assumption)]
      split at hz
      · rw [if_pos (by assumption)]
      · rw [if_neg (by assumption)]
        split at hz
        · exact absurd rfl hz
        · rw [if_neg (by assumption)]

theorem good_of {ns : List Nd} (h0 : firstErr ns ns.length = 0) (hb : ∀ i : Nat, i < ns.length → ¬ rBad ns i) : Good ns := by
  refine ⟨ord_of h0 fun i hi hk => hb i hi (Or.inr (Or.inl hk)), fun i hi e => hb i hi (Or.inl e), ?_⟩
  refine List.pairwise_iff_getElem.2 fun i j hi hj hij e => ?_
  refine hb j hj (Or.inr (Or.inr ⟨i, hij, ?_⟩))
  rw [nd_of_lt hi, nd_of_lt hj]; exact e

open Classical in
theorem chk_good {ns : List Nd} {r : Int} (h : ¬ 2000 < ns.length) (h0 : firstErr ns ns.length = 0) (g : Good ns) (hr : Ref ns r) : chk ns r = if (if ns = [] then r = -1 ∨ r = -2 else r = (ns.length : Int) - 1 ∧ numb ns ns.length r [] = upto ns.length) then 0 else 2 := by
  rw [chk_last h h0 (ord_kids g.ord) hr]
  by_cases e : cnRoot (tb ns 16 r) = r ∧ cnNodes (tb ns 16 r) = ns
  · rw [if_pos e, if_pos ((cn_iff g hr).1 e)]
  · rw [if_neg e, if_neg (fun h => e ((cn_iff g hr).2 h))]

theorem chk_empty_ok {r : Int} (h : r = -1 ∨ r = -2) : chk [] r = 0 := by
  have g : Good [] := ⟨fun i hi => by simp at hi, fun i hi => by simp at hi, List.nodup_nil⟩
  rw [chk_good (by simp) rfl g ⟨by omega, by simp; omega⟩, if_pos (by rw [if_pos rfl]; exact h)]
theorem chk_empty_bad {r : Int} (h : ¬ (r = -1 ∨ r = -2)) : chk [] r = 2 := by
  have g : Good [] := ⟨fun i hi => by simp at hi, fun i hi => by simp at hi, List.nodup_nil⟩
  by_cases hr : Ref [] r
  · rw [chk_good (by simp) rfl g hr, if_neg (by rw [if_pos rfl]; exact h)]
  · exact chk_ref (by simp) rfl (fun i hi => by simp at hi) hr
theorem chk_root_bad {ns : List Nd} {r : Int} (h : ¬ 2000 < ns.length) (h0 : firstErr ns ns.length = 0) (g : Good ns) (hn : ns ≠ []) (hr : r ≠ (ns.length : Int) - 1) : chk ns r = 2 := by
  by_cases hf : Ref ns r
  · rw [chk_good h h0 g hf, if_neg (by rw [if_neg hn]; exact fun e => hr e.1)]
  · exact chk_ref h h0 (ord_kids g.ord) hf
theorem chk_numb_bad {ns : List Nd} {r : Int} (h : ¬ 2000 < ns.length) (h0 : firstErr ns ns.length = 0) (g : Good ns) (hn : ns ≠ []) (hr : r = (ns.length : Int) - 1) (hb : numb ns ns.length r [] ≠ upto ns.length) : chk ns r = 2 := by
  have hp : 0 < ns.length := List.length_pos_iff.2 hn
  rw [chk_good h h0 g ⟨by omega, by omega⟩, if_neg (by rw [if_neg hn]; exact fun e => hb e.2)]
theorem chk_numb_ok {ns : List Nd} {r : Int} (h : ¬ 2000 < ns.length) (h0 : firstErr ns ns.length = 0) (g : Good ns) (hn : ns ≠ []) (hr : r = (ns.length : Int) - 1) (hb : numb ns ns.length r [] = upto ns.length) : chk ns r = 0 := by
  have hp : 0 < ns.length := List.length_pos_iff.2 hn
  rw [chk_good h h0 g ⟨by omega, by omega⟩, if_pos (by rw [if_neg hn]; exact ⟨hr, hb⟩)]

end Go.Proofs.Ythhogbligfmpdaa.Bd
